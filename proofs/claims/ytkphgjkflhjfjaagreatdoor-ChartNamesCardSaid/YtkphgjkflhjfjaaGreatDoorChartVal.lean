/-
  A region that draws its order, by what each operation's value is: each operation is walked once, whatever has come up besides; the last ones, in a forced order, as a plain region.
  chart.valueOf: the object of a mapping.
  chart.Value: the object of a map.
-/
import Derived.StillTail
import Derived.RegionTactic
import Derived.Deep.RegionHeld
import Derived.Test.YtkphgjkflhjfjaaGreatDoorValA
import Derived.Test.YtkphgjkflhjfjaaGreatDoorRefM2
import Derived.Test.YtkphgjkflhjfjaaGreatDoorChartM
import Derived.Test.YtkphgjkflhjfjaaGreatDoorPickB
namespace Go.Proofs.YtkphgjkflhjfjaaGreatDoor
section
open Go.RowKit
def frameOf (a:Act) (ops:Array Oper) (hd:List Nat) (vs:Nat → Value):Act:=hd.foldl (fun b k => b.put ((ops[k]?).bind (·.dst)) (vs k)) a
def updV (vs:Nat → Value) (i:Nat) (v:Value):Nat → Value:=fun k => if k = i then v else vs k
def dstOf (ops:Array Oper) (k:Nat):Option Tmp:=(ops[k]?).bind (·.dst)
theorem frameOf_cons (a:Act) (ops:Array Oper) (k:Nat) (hd:List Nat) (vs:Nat → Value):frameOf a ops (k :: hd) vs = frameOf (a.put (dstOf ops k) (vs k)) ops hd vs:=rfl
theorem frameOf_upd (ops:Array Oper) (vs:Nat → Value) (i:Nat) (v:Value):∀ (hd:List Nat) (a:Act),i ∉ hd → frameOf a ops hd (updV vs i v) = frameOf a ops hd vs
 | [],_,_ => rfl
 | k :: hd,a,h => by
   have h1:k ≠ i:=fun e => h (by rw [e]; exact List.mem_cons_self)
   have h2:updV vs i v k = vs k:=if_neg h1
   rw [frameOf_cons,frameOf_cons,h2,frameOf_upd ops vs i v hd _ (fun hm => h (List.mem_cons_of_mem _ hm))]
theorem put_put (a:Act) (d:Option Tmp) (x y:Value):(a.put d x).put d y = a.put d y:=by
 cases d with
 | none => rfl
 | some d => simp [Act.put]
def dstsB (ops:Array Oper):List Nat → Bool
 | [] => true
 | k :: hd => (hd.all fun j => decide (k ≠ j) && (decide (dstOf ops k = none) || decide (dstOf ops k ≠ dstOf ops j))) && dstsB ops hd
theorem frameOf_far (ops:Array Oper) (vs:Nat → Value) (d:Option Tmp) (v:Value):∀ (hd:List Nat) (a:Act),(∀ j ∈ hd,d = none ∨ d ≠ dstOf ops j) → (frameOf a ops hd vs).put d v = frameOf (a.put d v) ops hd vs
 | [],_,_ => rfl
 | k :: hd,a,h => by
   rw [frameOf_cons,frameOf_cons,frameOf_far ops vs d v hd _ (fun j hj => h j (List.mem_cons_of_mem _ hj))]
   have hk:=h k List.mem_cons_self
   have:(a.put (dstOf ops k) (vs k)).put d v = (a.put d v).put (dstOf ops k) (vs k):=by
    refine Act.put_comm _ _ _ fun x hx hy => ?_
    rcases hk with h1 | h1
    ·rw [h1] at hy; cases hy
    ·exact h1 (hy.trans hx.symm)
   rw [this]
theorem frameOf_put {ops:Array Oper} (vs:Nat → Value) {i:Nat} (v:Value):∀ (hd:List Nat) (a:Act),dstsB ops hd = true → i ∈ hd → (frameOf a ops hd vs).put (dstOf ops i) v = frameOf a ops hd (updV vs i v)
 | [],_,_,h => by cases h
 | k :: hd,a,hB,h => by
   rw [dstsB,Bool.and_eq_true,List.all_eq_true] at hB
   rw [frameOf_cons,frameOf_cons]
   by_cases e:i = k
   ·subst e
    have hn:i ∉ hd:=fun hm => by
     have:=hB.1 i hm
     simp at this
    have h1:updV vs i v i = v:=if_pos rfl
    rw [h1,frameOf_upd _ _ _ _ _ _ hn,frameOf_far,put_put]
    intro j hj
    have:=hB.1 j hj
    simp only [Bool.and_eq_true,Bool.or_eq_true,decide_eq_true_eq] at this
    exact this.2
   ·have h1:updV vs i v k = vs k:=if_neg (fun e2 => e e2.symm)
    rw [h1]
    exact frameOf_put vs v hd _ hB.2 ((List.mem_cons.1 h).resolve_left e)
theorem put_same (a:Act) (d:Option Tmp):∃ v,a.put d v = a:=by
 cases d with
 | none => exact ⟨undef,rfl⟩
 | some d =>
   by_cases h:d < a.tmps.size
   ·refine ⟨a.tmps[d],?_⟩
    unfold Act.put
    simp only
    congr 1
    apply Array.ext
    ·simp
    ·intro k h1 h2
     rw [Array.getElem_setIfInBounds (by simpa using h1)]
     split
     ·next e => subst e; rfl
     ·rfl
   ·refine ⟨undef,?_⟩
    unfold Act.put
    simp only
    rw [Array.setIfInBounds_eq_of_size_le (Nat.le_of_not_lt h)]
theorem frameOf_start (a:Act) (ops:Array Oper):∀ hd:List Nat,dstsB ops hd = true → ∃ vs,frameOf a ops hd vs = a
 | [],_ => ⟨fun _ => undef,rfl⟩
 | k :: hd,hB => by
   rw [dstsB,Bool.and_eq_true,List.all_eq_true] at hB
   obtain ⟨vs,h⟩:=frameOf_start a ops hd hB.2
   obtain ⟨v,hv⟩:=put_same a (dstOf ops k)
   have hn:k ∉ hd:=fun hm => by
    have:=hB.1 k hm
    simp at this
   refine ⟨updV vs k v,?_⟩
   have h1:updV vs k v k = v:=if_pos rfl
   rw [frameOf_cons,h1,hv,frameOf_upd _ _ _ _ _ _ hn,h]
def depsOf (o:Oper):List Nat:=(o.after.toList.filter fun e => Region.binds .any e).map (·.on)
def depsAt (ops:Array Oper) (k:Nat):List Nat:=match ops[k]? with
 | some o => depsOf o
 | none => []
def countF (L:Array Bool):Nat:=(List.range L.size).countP fun k => !L.getD k true
def tailL (ops:Array Oper) (tl:List Nat):Array Bool:=((List.range ops.size).map fun k => !tl.contains k).toArray
def tailB (ops:Array Oper):List Nat → Bool
 | [] => (Region.ready .any ops (tailL ops [])).isEmpty
 | t :: r => decide (Region.ready .any ops (tailL ops (t :: r)) = [t]) && decide ((tailL ops (t :: r)).setIfInBounds t true = tailL ops r) && tailB ops r
def slotsB (ops:Array Oper) (L0:Array Bool) (hd:List Nat) (t:Nat) (tl:List Nat):Bool :=
 decide (L0.size = ops.size) && ((List.range ops.size).all fun k => if L0.getD k true = true then !hd.contains k && !(t :: tl).contains k else hd.contains k != (t :: tl).contains k) && (hd.all fun k => decide (k < ops.size)) &&
 ((List.range ops.size).all fun j => (depsAt ops j).all fun k => decide (k < j)) && ((List.range ops.size).all fun j => !L0.getD j false || (depsAt ops j).all fun k => L0.getD k false) &&
 (hd.all fun i => (t :: hd).any fun j => decide (i < j) && (depsAt ops j).contains i) && (tl.all fun u => (depsAt ops u).any fun k => (t :: tl).contains k) && tailB ops (t :: tl) && decide (countF (tailL ops (t :: tl)) = (t :: tl).length) && dstsB ops hd
section
variable {P:Program} {ops:Array Oper} {Q:Exit → Act → World → Prop}
def SlotStep (P:Program) (ops:Array Oper) (Q:Exit → Act → World → Prop) (hd:List Nat) (a:Act) (G:World → Prop) (D:Nat → Value → World → Prop) (i:Nat) (o:Oper):Prop :=
 ∀ (vs:Nat → Value) (w:World),G w → (∀ k,hd.contains k = true → (depsOf o).contains k = true → D k (vs k) w) → ∀ K:Act → World → Prop,
   Shut (∀ v a' w',a' = (frameOf a ops hd vs).put o.dst v → G w' → Below w.heap.size w w' → D i v w' → K a' w') →
   if Region.wanted o (yielded ops (frameOf a ops hd vs).tmps) = true then Oper.wp P o (frameOf a ops hd vs) w K Q else K ((frameOf a ops hd vs).put o.dst undef) w
theorem getD_set_here (L:Array Bool) (i:Nat):(L.setIfInBounds i true).getD i true = true:=by
 rw [Array.getD_eq_getD_getElem?,Array.getElem?_setIfInBounds]
 split
 ·split <;> rfl
 ·rename_i h; exact absurd rfl h
theorem countF_set {L:Array Bool} {i:Nat} (h:L.getD i true = false):countF (L.setIfInBounds i true) < countF L:=by
 have hi:i < L.size:=by
  rcases Nat.lt_or_ge i L.size with h' | h'
  ·exact h'
  ·rw [Array.getD_eq_getD_getElem?,Array.getElem?_eq_none h'] at h
   cases h
 unfold countF
 rw [Array.size_setIfInBounds]
 obtain ⟨f,hf⟩:∃ f:Nat → Bool,f = fun k => !L.getD k true:=⟨_,rfl⟩
 obtain ⟨g,hg⟩:∃ g:Nat → Bool,g = fun k => !(L.setIfInBounds i true).getD k true:=⟨_,rfl⟩
 rw [← hf,← hg]
 have hmono:∀ l:List Nat,l.countP g ≤ l.countP f:=fun l => List.countP_mono_left fun k _ hk => by
  rw [hg] at hk
  rw [hf]
  simp only at hk ⊢
  by_cases e:i = k
  ·subst e
   rw [getD_set_here] at hk
   cases hk
  ·rwa [getD_set_ne true e] at hk
 obtain ⟨l1,l2,hl⟩:=List.append_of_mem (List.mem_range.2 hi)
 have h1:=hmono l1
 have h2:=hmono l2
 have h3:g i = false:=by rw [hg]; simp only; rw [getD_set_here]; rfl
 have h4:f i = true:=by rw [hf]; simp only; rw [h]; rfl
 rw [hl,List.countP_append,List.countP_append,List.countP_cons_of_pos h4,List.countP_cons_of_neg (by rw [h3]; decide)]
 omega
theorem ready_deps {L:Array Bool} {i:Nat} (hi:i ∈ Region.ready .any ops L):L.getD i true = false ∧ i < ops.size ∧ ∀ k,(depsAt ops i).contains k = true → L.getD k false = true:=by
 obtain ⟨hun,o,ho,hall⟩:=mem_ready.1 hi
 refine ⟨hun,(Array.getElem?_eq_some_iff.1 ho).1,fun k hk => ?_⟩
 unfold depsAt at hk
 rw [ho] at hk
 unfold depsOf at hk
 simp only [List.contains_iff_mem,List.mem_map,List.mem_filter] at hk
 obtain ⟨e,⟨he,hbn⟩,rfl⟩:=hk
 exact hall e (Array.mem_toList_iff.1 he) hbn
theorem deps_ready {L:Array Bool} {i:Nat} (hi:i < ops.size) (hun:L.getD i true = false) (h:∀ k,(depsAt ops i).contains k = true → L.getD k false = true):i ∈ Region.ready .any ops L:=by
 have hoi:ops[i]? = some ops[i]:=Array.getElem?_eq_getElem hi
 refine mem_ready.2 ⟨hun,_,hoi,fun e he hb => h _ ?_⟩
 unfold depsAt
 rw [hoi]
 unfold depsOf
 simp only [List.contains_iff_mem]
 exact List.mem_map.2 ⟨e,List.mem_filter.2 ⟨Array.mem_toList_iff.2 he,hb⟩,rfl⟩
theorem ready_some {L:Array Bool} (hs:L.size = ops.size) (ho:((List.range ops.size).all fun j => (depsAt ops j).all fun k => decide (k < j)) = true):∀ i,i < ops.size → L.getD i true = false → Region.ready .any ops L ≠ []:=by
 intro i
 induction i using Nat.strongRecOn with
 | _ i ih =>
   intro hi hun h0
   have hm:i ∈ Region.ready .any ops L:=deps_ready hi hun fun k hk => by
    have hki:k < i:=by
     have h1:=List.all_eq_true.1 (List.all_eq_true.1 ho i (List.mem_range.2 hi)) k (List.contains_iff_mem.1 hk)
     exact of_decide_eq_true h1
    cases hl:L.getD k false with
    | true => rfl
    | false => exact (ih k hki (by omega) (getD_in (by rw [hs]; omega) hl) h0).elim
   rw [h0] at hm
   cases hm
theorem wpAny_tail:∀ (tl:List Nat) (f:Nat) (a:Act) (w:World),tl.length ≤ f → tailB ops tl = true → wpList P ops Q (tl.filterMap fun k => ops[k]?) a w → wpAny P .any ops Q f (tailL ops tl) a w
 | [],f,a,w,_,hB,h => by
   have h0:Region.ready .any ops (tailL ops []) = []:=by simpa [tailB] using hB
   have hQ:Q .normal a w:=h
   cases f with
   | zero => exact ⟨h0,hQ⟩
   | succ f => exact ⟨fun _ => hQ,by rw [h0]; simp⟩
 | t :: r,0,_,_,hf,_,_ => by simp at hf
 | t :: r,f + 1,a,w,hf,hB,h => by
   rw [tailB,Bool.and_eq_true,Bool.and_eq_true,decide_eq_true_eq,decide_eq_true_eq] at hB
   obtain ⟨⟨h1,h2⟩,h3⟩:=hB
   refine ⟨fun h0 => (by rw [h1] at h0; cases h0),fun i hi => ?_⟩
   rw [h1] at hi
   obtain rfl:i = t:=by simpa using hi
   rw [← h1] at hi
   obtain ⟨-,o,ho,-⟩:=mem_ready.1 hi
   have hw:wpOp P ops Q i (wpList P ops Q (r.filterMap fun k => ops[k]?)) a w:=by
    unfold wpOp
    rw [List.filterMap_cons,ho] at h
    simp only [ho]
    exact h
   rw [h2]
   exact wpOp_mono (fun a' w' h' => wpAny_tail r f a' w' (by simpa using hf) h3 h') hw
theorem tailL_eq {L:Array Bool} {tl:List Nat} (hs:L.size = ops.size) (h:∀ k,k < ops.size → L.getD k true = !tl.contains k):L = tailL ops tl:=by
 apply Array.ext
 ·simp [tailL,hs]
 ·intro k h1 h2
  have:=h k (by omega)
  rw [Array.getD_eq_getD_getElem?,Array.getElem?_eq_getElem h1] at this
  simp only [Option.getD_some] at this
  rw [this]
  simp [tailL]
theorem slots_any {hd:List Nat} {t:Nat} {tl:List Nat} {a0:Act} {L0:Array Bool} (hB:slotsB ops L0 hd t tl = true) (G:World → Prop) (D:Nat → Value → World → Prop) (hD:∀ k v w w',D k v w → Below w.heap.size w w' → D k v w')
 (step:∀ i o,ops[i]? = some o → hd.contains i = true → SlotStep P ops Q hd a0 G D i o) (last:∀ vs w,G w → (∀ k,hd.contains k = true → D k (vs k) w) → wpList P ops Q ((t :: tl).filterMap fun k => ops[k]?) (frameOf a0 ops hd vs) w) :
 ∀ (f:Nat) (L:Array Bool) (vs:Nat → Value) (w:World),countF L ≤ f → L.size = ops.size → (∀ k,L0.getD k true = true → L.getD k true = true) → (∀ j k,L.getD j false = true → (depsAt ops j).contains k = true → L.getD k false = true) → (∀ u,(t :: tl).contains u = true → u < ops.size → L.getD u true = false) → G w → (∀ k,hd.contains k = true → L.getD k false = true → D k (vs k) w) → wpAny P .any ops Q f L (frameOf a0 ops hd vs) w:=by
 unfold slotsB at hB
 simp only [Bool.and_eq_true] at hB
 obtain ⟨⟨⟨⟨⟨⟨⟨⟨⟨-,hpart⟩,hin⟩,hord⟩,-⟩,hcov⟩,hch⟩,htB⟩,hcnt⟩,hdB⟩:=hB
 have hcnt:countF (tailL ops (t :: tl)) = (t :: tl).length:=of_decide_eq_true hcnt
 have hcase:∀ k,k < ops.size → L0.getD k true = false → hd.contains k = !(t :: tl).contains k:=fun k hk h0 => by
  have:=List.all_eq_true.1 hpart k (List.mem_range.2 hk)
  rw [h0,if_neg (by decide)] at this
  cases h1:hd.contains k <;> cases h2:(t :: tl).contains k <;> rw [h1,h2] at this <;> first | rfl | cases this
 have hlt:∀ k,hd.contains k = true → k < ops.size:=fun k hk => of_decide_eq_true (List.all_eq_true.1 hin k (List.contains_iff_mem.1 hk))
 have htail:∀ (f:Nat) (L:Array Bool) (vs:Nat → Value) (w:World),countF L ≤ f → L.size = ops.size → (∀ k,L0.getD k true = true → L.getD k true = true) → (∀ u,(t :: tl).contains u = true → u < ops.size → L.getD u true = false) → G w → (∀ k,hd.contains k = true → L.getD k true = true) → (∀ k,hd.contains k = true → L.getD k false = true → D k (vs k) w) → wpAny P .any ops Q f L (frameOf a0 ops hd vs) w:=by
  intro f L vs w hf hs hmo hun hG hall hv
  have hL:L = tailL ops (t :: tl):=tailL_eq hs fun k hk => by
   cases h2:(t :: tl).contains k with
   | true => exact hun k h2 hk
   | false =>
     cases h0:L0.getD k true with
     | true => exact hmo k h0
     | false =>
       have hc:=hcase k hk h0
       rw [h2] at hc
       exact hall k hc
  rw [hL] at hf ⊢
  refine wpAny_tail _ f _ _ (by omega) htB (last vs w hG fun k hk => hv k hk ?_)
  have h1:=hall k hk
  have hks:k < L.size:=by rw [hs]; exact hlt k hk
  rw [Array.getD_eq_getD_getElem?,Array.getElem?_eq_getElem hks] at h1 ⊢
  exact h1
 have hwait:∀ (L:Array Bool),L.size = ops.size → (∀ j k,L.getD j false = true → (depsAt ops j).contains k = true → L.getD k false = true) → (∀ u,(t :: tl).contains u = true → u < ops.size → L.getD u true = false) → ∀ (d i:Nat),ops.size - i = d → hd.contains i = true → L.getD i true = false → ∀ u,(t :: tl).contains u = true → u ∉ Region.ready .any ops L:=by
  intro L hs hcl hun d
  induction d using Nat.strongRecOn with
  | _ d ih =>
    intro i hd1 hi hiun u hu hr
    obtain ⟨g1,g2,g3⟩:=ready_deps hr
    by_cases hut:u = t
    ·subst hut
     obtain ⟨j,hj,hj2⟩:=List.any_eq_true.1 (List.all_eq_true.1 hcov i (List.contains_iff_mem.1 hi))
     rw [Bool.and_eq_true,decide_eq_true_eq] at hj2
     rcases List.mem_cons.1 hj with rfl | hj
     ·have:=g3 i hj2.2
      rw [getD_both hiun] at this
      cases this
     ·have hjl:=hlt j (List.contains_iff_mem.2 hj)
      cases hl:L.getD j false with
      | true =>
        have:=hcl j i hl hj2.2
        rw [getD_both hiun] at this
        cases this
      | false => exact ih (ops.size - j) (by omega) j rfl (List.contains_iff_mem.2 hj) (getD_in (by omega) hl) u hu hr
    ·have hutl:u ∈ tl:=(List.mem_cons.1 (List.contains_iff_mem.1 hu)).resolve_left hut
     obtain ⟨k,hk,hk2⟩:=List.any_eq_true.1 (List.all_eq_true.1 hch u hutl)
     have h1:=g3 k (List.contains_iff_mem.2 hk)
     have hkl:k < ops.size:=by
      rcases Nat.lt_or_ge k L.size with h | h
      ·omega
      ·rw [Array.getD_eq_getD_getElem?,Array.getElem?_eq_none h] at h1
       cases h1
     rw [getD_both (hun k hk2 hkl)] at h1
     cases h1
 intro f
 induction f with
 | zero =>
   intro L vs w hf hs hmo hcl hun hG hv
   by_cases hall:∀ k,hd.contains k = true → L.getD k true = true
   ·exact htail 0 L vs w hf hs hmo hun hG hall hv
   ·exfalso
    apply hall
    intro k hk
    cases h:L.getD k true with
    | true => rfl
    | false => have:=countF_set h; omega
 | succ f ih =>
   intro L vs w hf hs hmo hcl hun hG hv
   by_cases hall:∀ k,hd.contains k = true → L.getD k true = true
   ·exact htail (f + 1) L vs w hf hs hmo hun hG hall hv
   ·obtain ⟨q,hq⟩:∃ q,hd.contains q = true ∧ L.getD q true = false:=by
     apply Classical.byContradiction
     intro hno
     apply hall
     intro k hk
     cases h:L.getD k true with
     | true => rfl
     | false => exact absurd ⟨k,hk,h⟩ hno
    refine ⟨fun h0 => absurd h0 (ready_some hs hord q (hlt q hq.1) hq.2),fun i hi => ?_⟩
    obtain ⟨g1,g2,g3⟩:=ready_deps hi
    have hi0:L0.getD i true = false:=by
     cases h0:L0.getD i true with
     | false => rfl
     | true => rw [hmo i h0] at g1; cases g1
    have hih:hd.contains i = true:=by
     cases h2:(t :: tl).contains i with
     | true => exact absurd hi (hwait L hs hcl hun _ q rfl hq.1 hq.2 i h2)
     | false => rw [hcase i g2 hi0,h2]; rfl
    have hoi:ops[i]? = some ops[i]:=Array.getElem?_eq_getElem g2
    have hcl1:=countF_set g1
    have hdep:depsAt ops i = depsOf ops[i]:=by unfold depsAt; rw [hoi]
    have hput:∀ v,(frameOf a0 ops hd vs).put ops[i].dst v = frameOf a0 ops hd (updV vs i v):=fun v => by
     have:dstOf ops i = ops[i].dst:=by unfold dstOf; rw [hoi]; rfl
     rw [← this]
     exact frameOf_put vs v hd a0 hdB (List.contains_iff_mem.1 hih)
    refine wpOp_step hoi fun K' hK => ?_
    refine step i _ hoi hih vs w hG (fun k hk1 hk => hv k hk1 (g3 k (by rw [hdep]; exact hk))) K' fun v a' w' ha' hG' hb hDv => hK _ _ ?_
    rw [ha',hput]
    refine ih _ _ _ (by omega) (by rw [Array.size_setIfInBounds]; exact hs) (fun k hk => ?_) (fun j k hj hk => ?_) (fun u hu hul => ?_) hG' fun k hk hl => ?_
    ·by_cases e:i = k
     ·subst e; exact getD_set_here _ _
     ·rw [getD_set_ne true e]; exact hmo k hk
    ·by_cases e:i = j
     ·subst e
      exact getD_set_true (g3 k hk)
     ·rw [getD_set_ne false e] at hj
      exact getD_set_true (hcl j k hj hk)
    ·have hne:i ≠ u:=fun e => by
      subst e
      have:=hcase i g2 hi0
      rw [hih,hu] at this
      cases this
     rw [getD_set_ne true hne]
     exact hun u hu hul
    ·by_cases e:k = i
     ·subst e
      have:updV vs k v k = v:=if_pos rfl
      rw [this]
      exact hDv
     ·have:updV vs i v k = vs k:=if_neg e
      rw [this]
      rw [getD_set_ne false (fun e2 => e e2.symm)] at hl
      exact hD _ _ _ _ (hv k hk hl) hb
def SlotSteps (P:Program) (ops:Array Oper) (Q:Exit → Act → World → Prop) (hd:List Nat) (a:Act) (G:World → Prop) (D:Nat → Value → World → Prop) (l:List Nat):Prop:=∀ i o,ops[i]? = some o → l.contains i = true → SlotStep P ops Q hd a G D i o
def nthO:List Oper → Nat → Option Oper
 | [],_ => none
 | x :: _,0 => some x
 | _ :: l,k + 1 => nthO l k
theorem nthO_eq:∀ (l:List Oper) (k:Nat),nthO l k = l[k]?
 | [],k => by simp [nthO]
 | x :: _,0 => by simp [nthO]
 | _ :: l,k + 1 => by rw [nthO,nthO_eq l k,List.getElem?_cons_succ]
theorem wpAny_slots {f:Nat} {L:Array Bool} {a:Act} {w:World} (hd:List Nat) (t:Nat) (tl:List Nat) (hB:slotsB ops L hd t tl = true) (hf:countF L ≤ f) (G:World → Prop) (D:Nat → Value → World → Prop) (hD:∀ k v w w',D k v w → Below w.heap.size w w' → D k v w') (h0:G w)
 (step:SlotSteps P ops Q hd a G D hd) (last:∀ vs w,G w → (∀ k,hd.contains k = true → D k (vs k) w) → wpList P ops Q ((t :: tl).filterMap fun k => ops[k]?) (frameOf a ops hd vs) w):wpAny P .any ops Q f L a w:=by
 have hB':=hB
 unfold slotsB at hB'
 simp only [Bool.and_eq_true,decide_eq_true_eq] at hB'
 obtain ⟨⟨⟨⟨⟨⟨⟨⟨⟨hs,hpart⟩,hin⟩,-⟩,hcl⟩,-⟩,-⟩,-⟩,-⟩,hdB⟩:=hB'
 have hnot:∀ k,k < ops.size → L.getD k true = true → hd.contains k = false ∧ (t :: tl).contains k = false:=fun k hk h1 => by
  have:=List.all_eq_true.1 hpart k (List.mem_range.2 hk)
  rw [if_pos h1,Bool.and_eq_true] at this
  exact ⟨by simpa using this.1,by simpa using this.2⟩
 obtain ⟨vs,hvs⟩:=frameOf_start a ops hd hdB
 have:=slots_any hB G D hD step last f L vs w hf hs (fun k hk => hk) (fun j k hj hk => ?_) (fun u hu hul => ?_) h0 (fun k hk hl => ?_)
 ·rw [hvs] at this
  exact this
 ·have hjl:j < ops.size:=by
   rcases Nat.lt_or_ge j L.size with h | h
   ·omega
   ·rw [Array.getD_eq_getD_getElem?,Array.getElem?_eq_none h] at hj
    cases hj
  have h1:=List.all_eq_true.1 hcl j (List.mem_range.2 hjl)
  rw [hj] at h1
  have h2:(depsAt ops j).all (fun k => L.getD k false) = true:=by simpa using h1
  exact List.all_eq_true.1 h2 k (List.contains_iff_mem.1 hk)
 ·cases h1:L.getD u true with
  | false => rfl
  | true =>
    have:=(hnot u hul h1).2
    rw [hu] at this
    cases this
 ·have hkl:k < ops.size:=of_decide_eq_true (List.all_eq_true.1 hin k (List.contains_iff_mem.1 hk))
  have h1:L.getD k true = true:=by
   rw [Array.getD_eq_getD_getElem?,Array.getElem?_eq_getElem (by omega)] at hl ⊢
   exact hl
  have:=(hnot k hkl h1).1
  rw [hk] at this
  cases this
def putsOf (a:Act) (ps:List (Nat × Option Tmp)) (vs:Nat → Value):Act:=ps.foldl (fun b p => b.put p.2 (vs p.1)) a
theorem frame_puts {ops:Array Oper} (vs:Nat → Value):∀ (ps:List (Nat × Option Tmp)) (a:Act),(ps.all fun p => decide (dstOf ops p.1 = p.2)) = true → frameOf a ops (ps.map Prod.fst) vs = putsOf a ps vs
 | [],_,_ => rfl
 | p :: ps,a,h => by
   rw [List.all_cons,Bool.and_eq_true,decide_eq_true_eq] at h
   rw [List.map_cons,frameOf_cons,h.1,frame_puts vs ps _ h.2]
   rfl
def PutStep (P:Program) (ops:Array Oper) (Q:Exit → Act → World → Prop) (ps:List (Nat × Option Tmp)) (a:Act) (G:World → Prop) (D:Nat → Value → World → Prop) (i:Nat) (d:Option Tmp) (o:Oper):Prop :=
 ∀ (vs:Nat → Value) (w:World),G w → (∀ k,ps.any (fun p => p.1 == k) = true → (depsOf o).contains k = true → D k (vs k) w) → ∀ K:Act → World → Prop,
   Shut (∀ v a' w',a' = (putsOf a ps vs).put d v → G w' → Below w.heap.size w w' → D i v w' → K a' w') →
   if Region.wanted o (yielded ops (putsOf a ps vs).tmps) = true then Oper.wp P o (putsOf a ps vs) w K Q else K ((putsOf a ps vs).put o.dst undef) w
def PutSteps (P:Program) (ops:Array Oper) (Q:Exit → Act → World → Prop) (ps:List (Nat × Option Tmp)) (a:Act) (G:World → Prop) (D:Nat → Value → World → Prop) (l:List (Nat × Option Tmp)):Prop:=∀ p ∈ l,∀ o,ops[p.1]? = some o → PutStep P ops Q ps a G D p.1 p.2 o
theorem PutSteps.nil {ps:List (Nat × Option Tmp)} {a:Act} {G:World → Prop} {D:Nat → Value → World → Prop}:PutSteps P ops Q ps a G D []:=fun _ h => by cases h
theorem PutSteps.at {ps:List (Nat × Option Tmp)} {a:Act} {G:World → Prop} {D:Nat → Value → World → Prop} {i:Nat} {d:Option Tmp} {o:Oper} {l:List (Nat × Option Tmp)} (ho:nthO ops.toList i = some o) (h:PutStep P ops Q ps a G D i d o) (hs:PutSteps P ops Q ps a G D l):PutSteps P ops Q ps a G D ((i,d) :: l):=fun p hp o' ho' => by
 rcases List.mem_cons.1 hp with rfl | hp
 ·have h1:ops[i]? = some o:=by rw [← Array.getElem?_toList,← nthO_eq]; exact ho
  rw [h1] at ho'
  cases ho'
  exact h
 ·exact hs p hp o' ho'
theorem wpAny_puts {f:Nat} {L:Array Bool} {a:Act} {w:World} (ps:List (Nat × Option Tmp)) (t:Nat) (tl:List Nat) (hB:slotsB ops L (ps.map Prod.fst) t tl = true) (hP:(ps.all fun p => decide (dstOf ops p.1 = p.2)) = true) (hf:countF L ≤ f) (G:World → Prop) (D:Nat → Value → World → Prop) (hD:∀ k v w w',D k v w → Below w.heap.size w w' → D k v w') (h0:G w)
 (step:PutSteps P ops Q ps a G D ps) (last:∀ vs w,G w → (∀ k,ps.any (fun p => p.1 == k) = true → D k (vs k) w) → wpList P ops Q ((t :: tl).filterMap fun k => nthO ops.toList k) (putsOf a ps vs) w):wpAny P .any ops Q f L a w:=by
 have hc:∀ k,(ps.map Prod.fst).contains k = ps.any (fun p => p.1 == k):=fun k => by
  rw [List.contains_eq_any_beq,List.any_map]
  congr 1
  funext p
  exact Bool.beq_comm
 refine wpAny_slots (ps.map Prod.fst) t tl hB hf G D hD h0 (fun i o ho hi vs w hG hdep K hK => ?_) (fun vs w hG hdep => ?_)
 ·obtain ⟨p,hp,rfl⟩:=List.mem_map.1 (List.contains_iff_mem.1 hi)
  have hd:dstOf ops p.1 = p.2:=of_decide_eq_true (List.all_eq_true.1 hP p hp)
  have hod:o.dst = p.2:=by rw [← hd]; unfold dstOf; rw [ho]; rfl
  have:=step p hp o ho vs w hG (fun k h1 h2 => hdep k (by rw [hc]; exact h1) h2) K
  rw [frame_puts vs ps a hP] at hK ⊢
  rw [hod] at hK ⊢
  rw [hod] at this
  exact this hK
 ·rw [frame_puts vs ps a hP]
  have:=last vs w hG fun k hk => hdep k (by rw [hc]; exact hk)
  have e:(fun k => nthO ops.toList k) = fun k => ops[k]?:=funext fun k => by rw [nthO_eq,Array.getElem?_toList]
  rw [e] at this
  exact this
theorem wpAny_pure {i:Nat} {oi:Oper} {v:Value} {fuel:Nat} {listed:Array Bool} {a:Act} {w:World} (hi:nthO ops.toList i = some oi) (hs:Region.noSelect ops = true) (hf:Region.free .any ops listed i = true) (hr:(Region.ready .any ops listed).contains i = true)
 (hQ:∀ c a w,Q (.panic c) (a.put oi.dst v) w → Q (.panic c) a w) (hy:Yields P ops oi v a) (h:wpAny P .any ops Q fuel (listed.setIfInBounds i true) (a.put oi.dst v) w):wpAny P .any ops Q (fuel + 1) listed a w :=
 wpAny_take (by rw [← Array.getElem?_toList,← nthO_eq]; exact hi) hs hf hr hQ hy h
end
end

section
set_option maxRecDepth 100000
open Go.RowKit
def vofD (M:Nat) (x:MapgP) (a1 a2:Value) (k:Nat) (v:Value) (w:World):Prop :=
 match k with
 | 0 => v = .pointer (some ⟨M,0,none⟩)
 | 1 => v = a1
 | 2 => ∃ y:VC,v = y.val ∧ ValAt (pureW w) (textsJ x.paths) y.val
 | 3 => ∃ y:VC,v = .agg #[.string tPaths,.int .u8 y.k,.int .i64 y.n,.string y.t,.slice y.a y.l y.c,.slice y.b y.m y.e] ∧ ValAt (pureW w) (textsJ x.paths) y.val
 | 4 => v = .pointer (some ⟨M,1,none⟩)
 | 5 => v = a2
 | 6 => ∃ y:VC,v = y.val ∧ ValAt (pureW w) (textsJ x.repos) y.val
 | 7 => ∃ y:VC,v = .agg #[.string tRepos,.int .u8 y.k,.int .i64 y.n,.string y.t,.slice y.a y.l y.c,.slice y.b y.m y.e] ∧ ValAt (pureW w) (textsJ x.repos) y.val
 | 8 => v = .pointer (some ⟨M,2,none⟩)
 | 9 => v = .bool x.term
 | 10 => v = .agg #[.int .u8 1,.int .i64 (if x.term = true then 1 else 0),.string ⟨#[]⟩,.slice none 0 0,.slice none 0 0]
 | 11 => v = .agg #[.string tTerm,.int .u8 1,.int .i64 (if x.term = true then 1 else 0),.string ⟨#[]⟩,.slice none 0 0,.slice none 0 0]
 | 12 => v = .pointer (some ⟨M,3,none⟩)
 | 13 => v = .int .i64 x.thr
 | 14 => v = .agg #[.int .u8 2,.int .i64 x.thr,.string ⟨#[]⟩,.slice none 0 0,.slice none 0 0]
 | 15 => v = .agg #[.string tThr,.int .u8 2,.int .i64 x.thr,.string ⟨#[]⟩,.slice none 0 0,.slice none 0 0]
 | 16 => ∃ (b:Nat) (p r:VC),v = .slice (some ⟨b,0,none⟩) 4 4 ∧ ValAt (pureW w) (textsJ x.paths) p.val ∧ ValAt (pureW w) (textsJ x.repos) r.val ∧ BlkAt w b 61 (xmCells (mapgX x p r)).toArray
 | 17 => ∃ y:VC,v = .tuple #[y.val,.int .i64 0] ∧ NewV (M + 2) w (mapgJ x) y.val
 | 18 => ∃ y:VC,v = y.val ∧ NewV (M + 2) w (mapgJ x) y.val
 | 19 => v = .int .i64 0
 | _ => True
theorem vofD_17 {M:Nat} {x:MapgP} {a1 a2 v:Value} {w:World} (h:vofD M x a1 a2 17 v w):∃ y:VC,v = .tuple #[y.val,.int .i64 0] ∧ NewV (M + 2) w (mapgJ x) y.val:=h
theorem vofD_18 {M:Nat} {x:MapgP} {a1 a2 v:Value} {w:World} (h:vofD M x a1 a2 18 v w):∃ y:VC,v = y.val ∧ NewV (M + 2) w (mapgJ x) y.val:=h
theorem vofD_mk17 {M:Nat} {x:MapgP} {a1 a2:Value} {w:World} (y:VC) (h:NewV (M + 2) w (mapgJ x) y.val):vofD M x a1 a2 17 (.tuple #[y.val,.int .i64 0]) w:=⟨y,rfl,h⟩
theorem vofD_mk18 {M:Nat} {x:MapgP} {a1 a2:Value} {w:World} (y:VC) (h:NewV (M + 2) w (mapgJ x) y.val):vofD M x a1 a2 18 y.val w:=⟨y,rfl,h⟩
theorem NewV.keepB {B:Nat} {w w':World} {V:JV} {v:Value} (h:NewV B w V v) (hb:Below w.heap.size w w'):NewV B w' V v :=
 ValAt.carry h fun k hk hP => ⟨hP,hb.block k hk⟩
theorem NewV.low {B C:Nat} {w:World} {V:JV} {v:Value} (h:NewV B w V v) (hC:C ≤ B):NewV C w V v :=
 ValAt.carry h fun k hk hP => ⟨offB_none.2 (by have:=offB_none.1 hP; omega),rfl⟩
theorem vofD_keep {M:Nat} {x:MapgP} {a1 a2:Value}:∀ k v w w',vofD M x a1 a2 k v w → Below w.heap.size w w' → vofD M x a1 a2 k v w':=by
 intro k v w w' h hb
 unfold vofD at h ⊢
 split at h <;> try exact h
 ·obtain ⟨y,h1,h2⟩:=h
  exact ⟨y,h1,h2.imp (pure_keep hb)⟩
 ·obtain ⟨y,h1,h2⟩:=h
  exact ⟨y,h1,h2.imp (pure_keep hb)⟩
 ·obtain ⟨y,h1,h2⟩:=h
  exact ⟨y,h1,h2.imp (pure_keep hb)⟩
 ·obtain ⟨y,h1,h2⟩:=h
  exact ⟨y,h1,h2.imp (pure_keep hb)⟩
 ·obtain ⟨b,p,r,h1,h2,h3,h4⟩:=h
  exact ⟨b,p,r,h1,h2.imp (pure_keep hb),h3.imp (pure_keep hb),BlkAt.keep h4 hb⟩
 ·obtain ⟨y,h1,h2⟩:=h
  exact ⟨y,h1,h2.keepB hb⟩
 ·obtain ⟨y,h1,h2⟩:=h
  exact ⟨y,h1,h2.keepB hb⟩
set_option maxHeartbeats 16000000 in
theorem valueOf_any (x:MapgP) (v:Value) (w:World) (h:MapgAt w v x) (h1:x.paths.length ≤ 1000000) (h2:x.repos.length ≤ 1000000) (hw1:wt (textsJ x.paths) ≤ 1000000000) (hw2:wt (textsJ x.repos) ≤ 1000000000) :
 Calls Tryz.prog 25 #[v] w fun e w' => ∃ y:VC,e = .returned (.tuple #[y.val,.int .i64 0]) ∧ Below w.heap.size w w' ∧ NewV w.heap.size w' (mapgJ x) y.val:=by
 obtain ⟨u1,u2,rfl,s1,s2,-,n0,n1⟩:=h
 obtain ⟨a1,c1,rfl,-,-,-⟩:=s1.parts
 obtain ⟨a2,c2,rfl,-,-,-⟩:=s2.parts
 obtain ⟨k1,hk1⟩:∃ k,x.paths.length = k:=⟨_,rfl⟩
 obtain ⟨k2,hk2⟩:∃ k,x.repos.length = k:=⟨_,rfl⟩
 rw [hk1] at s1 h1 ⊢
 rw [hk2] at s2 h2 ⊢
 obtain ⟨wA,hA⟩:∃ y,y = (w.alloc (.cells #[.slice a1 k1 c1,.slice a2 k2 c2,.bool x.term,.int .i64 x.thr] 50)).alloc (.cells #[.int .u8 0,.int .i64 0,.string ⟨#[]⟩,.slice none 0 0,.slice none 0 0] 31):=⟨_,rfl⟩
 have hbA:Below w.heap.size w wA:=by rw [hA]; exact bel_alloc (bel_alloc (Below.refl _ _) _) _
 have HM:Hid (BlkAt wA w.heap.size 50 #[.slice a1 k1 c1,.slice a2 k2 c2,.bool x.term,.int .i64 x.thr]):=by rw [hA]; exact (blkAt_new w _ _).alloc _
 have HRB:Hid (BlkAt wA (w.heap.size + 1) 31 #[.int .u8 0,.int .i64 0,.string ⟨#[]⟩,.slice none 0 0,.slice none 0 0]):=by
  rw [hA]
  have:=blkAt_new (w.alloc (.cells #[.slice a1 k1 c1,.slice a2 k2 c2,.bool x.term,.int .i64 x.thr] 50)) #[.int .u8 0,.int .i64 0,.string ⟨#[]⟩,.slice none 0 0,.slice none 0 0] 31
  rwa [size_al] at this
 have HT1:Hid (∀ Y,Below wA.heap.size wA Y → Calls Tryz.prog 23 #[.slice a1 k1 c1] Y fun e w' => ∃ y:VC,e = .returned y.val ∧ Below Y.heap.size Y w' ∧ NewV Y.heap.size w' (textsJ x.paths) y.val):=fun Y hY => textsOf_any x.paths _ Y ((s1.keep hbA).keep hY) (by omega)
 have HT2:Hid (∀ Y,Below wA.heap.size wA Y → Calls Tryz.prog 23 #[.slice a2 k2 c2] Y fun e w' => ∃ y:VC,e = .returned y.val ∧ Below Y.heap.size Y w' ∧ NewV Y.heap.size w' (textsJ x.repos) y.val):=fun Y hY => textsOf_any x.repos _ Y ((s2.keep hbA).keep hY) (by omega)
 have HBO:=Lib.hid (fun Y => boolOf_any x.term Y)
 have HNO:=Lib.hid (fun Y => numOf_any x.thr Y)
 have HOB:=Lib.hid (fun p r b c Y hp hr => objectOf_mapg x p r b c Y hp hr n0 n1 hw1 hw2)
 have HBA:=Lib.hid hbA
 have HA:=Lib.hid hA
 obtain ⟨m0,m1,m2,m3,mf⟩:=b4' HM.out
 have hsA:wA.heap.size = w.heap.size + 2:=by rw [hA,size_al,size_al]
 have HSA:=Lib.hid hsA
 clear s1 s2 h1 h2 hw1 hw2 n0 n1 hA hbA hk1 hk2 hsA
 go_enter Tryz.func25,Tryz.ntmps25
 go_wp2_with fail
 rw [← HA.out]
 refine wp_region_any (by kernel_rfl) ?_
 refine wpAny_puts [(0,some 4),(1,some 5),(2,some 6),(3,some 7),(4,some 8),(5,some 9),(6,some 10),(7,some 11),(8,some 12),(9,some 13),(10,some 14),(11,some 15),(12,some 16),(13,some 17),(14,some 18),(15,some 19),(16,some 20),(17,some 21),(18,some 22),(19,some 23)] 20 [21] (by kernel_rfl) (by kernel_rfl) (of_decide_eq_true (by kernel_rfl)) (fun w' => Below wA.heap.size wA w') (vofD w.heap.size x (.slice a1 k1 c1) (.slice a2 k2 c2)) vofD_keep (bel_drew (Below.refl _ _)) ?_ ?_
 ·refine PutSteps.at rfl ?_ ?_
  ·intro vs Y hG hdep K hK
   simp only [putsOf,List.foldl_cons,List.foldl_nil,Act.put,List.setIfInBounds_toArray,List.set_cons_zero,List.set_cons_succ] at hK ⊢
   go_simp
   exact hK.out (.pointer (some ⟨w.heap.size,0,none⟩)) _ _ rfl hG (Below.refl _ _) rfl
  refine PutSteps.at rfl ?_ ?_
  ·intro vs Y hG hdep K hK
   have e0:vs 0 = .pointer (some ⟨w.heap.size,0,none⟩):=hdep 0 rfl (by kernel_rfl)
   have y0:=cell_keep hG m0
   simp only [putsOf,List.foldl_cons,List.foldl_nil,Act.put,List.setIfInBounds_toArray,List.set_cons_zero,List.set_cons_succ] at hK ⊢
   rw [e0] at hK ⊢
   go_simp
   exact hK.out (.slice a1 k1 c1) _ _ rfl hG (Below.refl _ _) rfl
  refine PutSteps.at rfl ?_ ?_
  ·intro vs Y hG hdep K hK
   have e0:vs 1 = .slice a1 k1 c1:=hdep 1 rfl (by kernel_rfl)
   simp only [putsOf,List.foldl_cons,List.foldl_nil,Act.put,List.setIfInBounds_toArray,List.set_cons_zero,List.set_cons_succ] at hK ⊢
   rw [e0] at hK ⊢
   go_simp
   refine (HT1.out _ hG).mono ?_
   rintro e w4 ⟨⟨yk,yn,yt,ya,yl,yc,yb,ym,ye⟩,rfl,hb4,hv4⟩
   exact hK.out (.agg #[.int .u8 yk,.int .i64 yn,.string yt,.slice ya yl yc,.slice yb ym ye]) _ _ rfl (below_more hG hb4) hb4 ⟨⟨yk,yn,yt,ya,yl,yc,yb,ym,ye⟩,rfl,valOf_pure hv4 (Below.refl _ _)⟩
  refine PutSteps.at rfl ?_ ?_
  ·intro vs Y hG hdep K hK
   obtain ⟨⟨yk,yn,yt,ya,yl,yc,yb,ym,ye⟩,e0,hv⟩:=show ∃ y:VC,vs 2 = y.val ∧ ValAt (pureW Y) (textsJ x.paths) y.val from hdep 2 rfl (by kernel_rfl)
   simp only [VC.val] at e0
   simp only [putsOf,List.foldl_cons,List.foldl_nil,Act.put,List.setIfInBounds_toArray,List.set_cons_zero,List.set_cons_succ] at hK ⊢
   rw [e0] at hK ⊢
   go_simp
   exact hK.out (.agg #[.string tPaths,.int .u8 yk,.int .i64 yn,.string yt,.slice ya yl yc,.slice yb ym ye]) _ _ rfl hG (Below.refl _ _) ⟨⟨yk,yn,yt,ya,yl,yc,yb,ym,ye⟩,rfl,hv⟩
  refine PutSteps.at rfl ?_ ?_
  ·intro vs Y hG hdep K hK
   simp only [putsOf,List.foldl_cons,List.foldl_nil,Act.put,List.setIfInBounds_toArray,List.set_cons_zero,List.set_cons_succ] at hK ⊢
   go_simp
   exact hK.out (.pointer (some ⟨w.heap.size,1,none⟩)) _ _ rfl hG (Below.refl _ _) rfl
  refine PutSteps.at rfl ?_ ?_
  ·intro vs Y hG hdep K hK
   have e0:vs 4 = .pointer (some ⟨w.heap.size,1,none⟩):=hdep 4 rfl (by kernel_rfl)
   have y0:=cell_keep hG m1
   simp only [putsOf,List.foldl_cons,List.foldl_nil,Act.put,List.setIfInBounds_toArray,List.set_cons_zero,List.set_cons_succ] at hK ⊢
   rw [e0] at hK ⊢
   go_simp
   exact hK.out (.slice a2 k2 c2) _ _ rfl hG (Below.refl _ _) rfl
  refine PutSteps.at rfl ?_ ?_
  ·intro vs Y hG hdep K hK
   have e0:vs 5 = .slice a2 k2 c2:=hdep 5 rfl (by kernel_rfl)
   simp only [putsOf,List.foldl_cons,List.foldl_nil,Act.put,List.setIfInBounds_toArray,List.set_cons_zero,List.set_cons_succ] at hK ⊢
   rw [e0] at hK ⊢
   go_simp
   refine (HT2.out _ hG).mono ?_
   rintro e w4 ⟨⟨yk,yn,yt,ya,yl,yc,yb,ym,ye⟩,rfl,hb4,hv4⟩
   exact hK.out (.agg #[.int .u8 yk,.int .i64 yn,.string yt,.slice ya yl yc,.slice yb ym ye]) _ _ rfl (below_more hG hb4) hb4 ⟨⟨yk,yn,yt,ya,yl,yc,yb,ym,ye⟩,rfl,valOf_pure hv4 (Below.refl _ _)⟩
  refine PutSteps.at rfl ?_ ?_
  ·intro vs Y hG hdep K hK
   obtain ⟨⟨yk,yn,yt,ya,yl,yc,yb,ym,ye⟩,e0,hv⟩:=show ∃ y:VC,vs 6 = y.val ∧ ValAt (pureW Y) (textsJ x.repos) y.val from hdep 6 rfl (by kernel_rfl)
   simp only [VC.val] at e0
   simp only [putsOf,List.foldl_cons,List.foldl_nil,Act.put,List.setIfInBounds_toArray,List.set_cons_zero,List.set_cons_succ] at hK ⊢
   rw [e0] at hK ⊢
   go_simp
   exact hK.out (.agg #[.string tRepos,.int .u8 yk,.int .i64 yn,.string yt,.slice ya yl yc,.slice yb ym ye]) _ _ rfl hG (Below.refl _ _) ⟨⟨yk,yn,yt,ya,yl,yc,yb,ym,ye⟩,rfl,hv⟩
  refine PutSteps.at rfl ?_ ?_
  ·intro vs Y hG hdep K hK
   simp only [putsOf,List.foldl_cons,List.foldl_nil,Act.put,List.setIfInBounds_toArray,List.set_cons_zero,List.set_cons_succ] at hK ⊢
   go_simp
   exact hK.out (.pointer (some ⟨w.heap.size,2,none⟩)) _ _ rfl hG (Below.refl _ _) rfl
  refine PutSteps.at rfl ?_ ?_
  ·intro vs Y hG hdep K hK
   have e0:vs 8 = .pointer (some ⟨w.heap.size,2,none⟩):=hdep 8 rfl (by kernel_rfl)
   have y0:=cell_keep hG m2
   simp only [putsOf,List.foldl_cons,List.foldl_nil,Act.put,List.setIfInBounds_toArray,List.set_cons_zero,List.set_cons_succ] at hK ⊢
   rw [e0] at hK ⊢
   go_simp
   exact hK.out (.bool x.term) _ _ rfl hG (Below.refl _ _) rfl
  refine PutSteps.at rfl ?_ ?_
  ·intro vs Y hG hdep K hK
   have e0:vs 9 = .bool x.term:=hdep 9 rfl (by kernel_rfl)
   simp only [putsOf,List.foldl_cons,List.foldl_nil,Act.put,List.setIfInBounds_toArray,List.set_cons_zero,List.set_cons_succ] at hK ⊢
   rw [e0] at hK ⊢
   go_simp
   refine (HBO.out _).mono ?_
   rintro e w4 ⟨rfl,hb4⟩
   exact hK.out (.agg #[.int .u8 1,.int .i64 (if x.term = true then 1 else 0),.string ⟨#[]⟩,.slice none 0 0,.slice none 0 0]) _ _ rfl (below_more hG hb4) hb4 rfl
  refine PutSteps.at rfl ?_ ?_
  ·intro vs Y hG hdep K hK
   have e0:vs 10 = .agg #[.int .u8 1,.int .i64 (if x.term = true then 1 else 0),.string ⟨#[]⟩,.slice none 0 0,.slice none 0 0]:=hdep 10 rfl (by kernel_rfl)
   simp only [putsOf,List.foldl_cons,List.foldl_nil,Act.put,List.setIfInBounds_toArray,List.set_cons_zero,List.set_cons_succ] at hK ⊢
   rw [e0] at hK ⊢
   go_simp
   exact hK.out (.agg #[.string tTerm,.int .u8 1,.int .i64 (if x.term = true then 1 else 0),.string ⟨#[]⟩,.slice none 0 0,.slice none 0 0]) _ _ rfl hG (Below.refl _ _) rfl
  refine PutSteps.at rfl ?_ ?_
  ·intro vs Y hG hdep K hK
   simp only [putsOf,List.foldl_cons,List.foldl_nil,Act.put,List.setIfInBounds_toArray,List.set_cons_zero,List.set_cons_succ] at hK ⊢
   go_simp
   exact hK.out (.pointer (some ⟨w.heap.size,3,none⟩)) _ _ rfl hG (Below.refl _ _) rfl
  refine PutSteps.at rfl ?_ ?_
  ·intro vs Y hG hdep K hK
   have e0:vs 12 = .pointer (some ⟨w.heap.size,3,none⟩):=hdep 12 rfl (by kernel_rfl)
   have y0:=cell_keep hG m3
   simp only [putsOf,List.foldl_cons,List.foldl_nil,Act.put,List.setIfInBounds_toArray,List.set_cons_zero,List.set_cons_succ] at hK ⊢
   rw [e0] at hK ⊢
   go_simp
   exact hK.out (.int .i64 x.thr) _ _ rfl hG (Below.refl _ _) rfl
  refine PutSteps.at rfl ?_ ?_
  ·intro vs Y hG hdep K hK
   have e0:vs 13 = .int .i64 x.thr:=hdep 13 rfl (by kernel_rfl)
   simp only [putsOf,List.foldl_cons,List.foldl_nil,Act.put,List.setIfInBounds_toArray,List.set_cons_zero,List.set_cons_succ] at hK ⊢
   rw [e0] at hK ⊢
   go_simp
   refine (HNO.out _).mono ?_
   rintro e w4 ⟨rfl,hb4⟩
   exact hK.out (.agg #[.int .u8 2,.int .i64 x.thr,.string ⟨#[]⟩,.slice none 0 0,.slice none 0 0]) _ _ rfl (below_more hG hb4) hb4 rfl
  refine PutSteps.at rfl ?_ ?_
  ·intro vs Y hG hdep K hK
   have e0:vs 14 = .agg #[.int .u8 2,.int .i64 x.thr,.string ⟨#[]⟩,.slice none 0 0,.slice none 0 0]:=hdep 14 rfl (by kernel_rfl)
   simp only [putsOf,List.foldl_cons,List.foldl_nil,Act.put,List.setIfInBounds_toArray,List.set_cons_zero,List.set_cons_succ] at hK ⊢
   rw [e0] at hK ⊢
   go_simp
   exact hK.out (.agg #[.string tThr,.int .u8 2,.int .i64 x.thr,.string ⟨#[]⟩,.slice none 0 0,.slice none 0 0]) _ _ rfl hG (Below.refl _ _) rfl
  refine PutSteps.at rfl ?_ ?_
  ·intro vs Y hG hdep K hK
   obtain ⟨⟨pk,pn,pt,pa,pl,pc,pb,pm,pe⟩,e0,hv0⟩:=show ∃ y:VC,vs 3 = .agg #[.string tPaths,.int .u8 y.k,.int .i64 y.n,.string y.t,.slice y.a y.l y.c,.slice y.b y.m y.e] ∧ ValAt (pureW Y) (textsJ x.paths) y.val from hdep 3 rfl (by kernel_rfl)
   obtain ⟨⟨rk,rn,rt,ra,rl,rc,rb,rm,re⟩,e1,hv1⟩:=show ∃ y:VC,vs 7 = .agg #[.string tRepos,.int .u8 y.k,.int .i64 y.n,.string y.t,.slice y.a y.l y.c,.slice y.b y.m y.e] ∧ ValAt (pureW Y) (textsJ x.repos) y.val from hdep 7 rfl (by kernel_rfl)
   have e2:vs 11 = .agg #[.string tTerm,.int .u8 1,.int .i64 (if x.term = true then 1 else 0),.string ⟨#[]⟩,.slice none 0 0,.slice none 0 0]:=hdep 11 rfl (by kernel_rfl)
   have e3:vs 15 = .agg #[.string tThr,.int .u8 2,.int .i64 x.thr,.string ⟨#[]⟩,.slice none 0 0,.slice none 0 0]:=hdep 15 rfl (by kernel_rfl)
   simp only at e0 e1
   simp only [putsOf,List.foldl_cons,List.foldl_nil,Act.put,List.setIfInBounds_toArray,List.set_cons_zero,List.set_cons_succ] at hK ⊢
   rw [e0,e1,e2,e3] at hK ⊢
   go_simp
   exact hK.out (.slice (some ⟨Y.heap.size,0,none⟩) 4 4) _ _ rfl (bel_alloc hG _) (bel_alloc (Below.refl _ _) _) ⟨Y.heap.size,⟨pk,pn,pt,pa,pl,pc,pb,pm,pe⟩,⟨rk,rn,rt,ra,rl,rc,rb,rm,re⟩,rfl,hv0.imp (pure_keep (bel_alloc (Below.refl _ _) _)),hv1.imp (pure_keep (bel_alloc (Below.refl _ _) _)),blkAt_newC _ _ _⟩
  refine PutSteps.at rfl ?_ ?_
  ·intro vs Y hG hdep K hK
   obtain ⟨b,p,r,e0,hv0,hv1,hb⟩:=show ∃ (b:Nat) (p r:VC),vs 16 = .slice (some ⟨b,0,none⟩) 4 4 ∧ ValAt (pureW Y) (textsJ x.paths) p.val ∧ ValAt (pureW Y) (textsJ x.repos) r.val ∧ BlkAt Y b 61 (xmCells (mapgX x p r)).toArray from hdep 16 rfl (by kernel_rfl)
   simp only [putsOf,List.foldl_cons,List.foldl_nil,Act.put,List.setIfInBounds_toArray,List.set_cons_zero,List.set_cons_succ] at hK ⊢
   rw [e0] at hK ⊢
   go_simp
   refine (HOB.out p r b 4 _ hv0 hv1 (fun j u hj => by rw [BlkAt.cell hb j]; simpa using hj)).mono ?_
   rintro e w4 ⟨⟨yk,yn,yt,ya,yl,yc,yb,ym,ye⟩,rfl,hb4,hv4⟩
   have hsY:=hG.size
   exact hK.out (.tuple #[.agg #[.int .u8 yk,.int .i64 yn,.string yt,.slice ya yl yc,.slice yb ym ye],.int .i64 0]) _ _ rfl (below_more hG hb4) hb4 (vofD_mk17 ⟨yk,yn,yt,ya,yl,yc,yb,ym,ye⟩ (NewV.low hv4 (by rw [← HSA.out]; exact hsY)))
  refine PutSteps.at rfl ?_ ?_
  ·intro vs Y hG hdep K hK
   simp only [putsOf,List.foldl_cons,List.foldl_nil,Act.put,List.setIfInBounds_toArray,List.set_cons_zero,List.set_cons_succ] at hK ⊢
   go_simp
   obtain ⟨y,e0,hv⟩:=vofD_17 (hdep 17 rfl (by kernel_rfl))
   rw [e0] at hK ⊢
   go_simp
   exact hK.out y.val _ _ rfl hG (Below.refl _ _) (vofD_mk18 y hv)
  refine PutSteps.at rfl ?_ PutSteps.nil
  ·intro vs Y hG hdep K hK
   simp only [putsOf,List.foldl_cons,List.foldl_nil,Act.put,List.setIfInBounds_toArray,List.set_cons_zero,List.set_cons_succ] at hK ⊢
   go_simp
   obtain ⟨y,e0,-⟩:=vofD_17 (hdep 17 rfl (by kernel_rfl))
   rw [e0] at hK ⊢
   go_simp
   exact hK.out (.int .i64 0) _ _ rfl hG (Below.refl _ _) rfl
 ·intro vs Y hG hdep
  obtain ⟨⟨yk,yn,yt,ya,yl,yc,yb,ym,ye⟩,e0,hv⟩:=vofD_18 (hdep 18 rfl)
  have e1:vs 19 = .int .i64 0:=hdep 19 rfl
  simp only [VC.val] at e0
  simp only [putsOf,List.foldl_cons,List.foldl_nil,Act.put,List.setIfInBounds_toArray,List.set_cons_zero,List.set_cons_succ]
  simp only [List.filterMap_cons,List.filterMap_nil,nthO]
  rw [e0,e1]
  have hR:=BlkAt.keep HRB.out hG
  obtain ⟨r0,r1,r2,r3,r4,rf⟩:=b5 hR
  have hbY:=below_more HBA.out hG
  have HNV:Hid (NewV w.heap.size (((((Y.setCell ⟨w.heap.size + 1,0,none⟩ (.int .u8 yk)).setCell ⟨w.heap.size + 1,1,none⟩ (.int .i64 yn)).setCell ⟨w.heap.size + 1,2,none⟩ (.string yt)).setCell ⟨w.heap.size + 1,3,none⟩ (.slice ya yl yc)).setCell ⟨w.heap.size + 1,4,none⟩ (.slice yb ym ye)) (mapgJ x) (.agg #[.int .u8 yk,.int .i64 yn,.string yt,.slice ya yl yc,.slice yb ym ye])) :=
   ValAt.carry hv fun k hk hP => ⟨offB_none.2 (by have:=offB_none.1 hP; omega),heap_set5 _ _ _ _ _ _ _ _ (by have:=offB_none.1 hP; omega)⟩
  have HR5:=Lib.hid (blk_set5 hR (.int .u8 yk) (.int .i64 yn) (.string yt) (.slice ya yl yc) (.slice yb ym ye))
  have HB5:=Lib.hid (bset5 hbY (Nat.le_succ _) (.int .u8 yk) (.int .i64 yn) (.string yt) (.slice ya yl yc) (.slice yb ym ye))
  clear hdep hG hv hR hbY e0 e1
  refine wpList_plain rfl fun K hK => ?_
  go_simp
  refine hK _ _ ?_
  refine wpList_plain rfl fun K hK => ?_
  go_simp
  refine hK _ _ ?_
  refine wpList_nil ?_
  clear r0 r1 r2 r3 r4 rf
  generalize ((((Y.setCell ⟨w.heap.size + 1,0,none⟩ (.int .u8 yk)).setCell ⟨w.heap.size + 1,1,none⟩ (.int .i64 yn)).setCell ⟨w.heap.size + 1,2,none⟩ (.string yt)).setCell ⟨w.heap.size + 1,3,none⟩ (.slice ya yl yc)).setCell ⟨w.heap.size + 1,4,none⟩ (.slice yb ym ye) = wF at HNV HR5 HB5 ⊢
  obtain ⟨q0,q1,q2,q3,q4,-⟩:=b5 HR5.out
  go_wp2_with fail
  exact bodyPost_ret (v:=.tuple #[.agg #[.int .u8 yk,.int .i64 yn,.string yt,.slice ya yl yc,.slice yb ym ye],.int .i64 0]) (by simp [results,Tryz.results25,go_sem,q0,q1,q2,q3,q4]) rfl ⟨⟨yk,yn,yt,ya,yl,yc,yb,ym,ye⟩,rfl,HB5.out,HNV.out⟩
end

section
set_option maxRecDepth 100000
open Go.RowKit
def MemsOwnP (w:World) (B:Nat) (v:Value) (xs:List XM):Prop:=w.ownsRow B 61 6 v xs.length (xmCells xs) ∧ ∀ x ∈ xs,ValAt (hidden (offB B v.ownBlock) w) x.V x.c.val
theorem MemsOwnP.nil (w:World) (B:Nat):MemsOwnP w B (.slice none 0 0) []:=⟨World.ownsRow_nil _ _ _ _,by simp⟩
theorem MemsOwnP.keep {w w':World} {B:Nat} {v:Value} {xs:List XM} (h:MemsOwnP w B v xs) (hb:Below w.heap.size w w'):MemsOwnP w' B v xs :=
 ⟨ownsRow_keep h.1 hb,fun x hx => (h.2 x hx).carry fun k hk hP => ⟨hP,hb.block k hk⟩⟩
theorem MemsOwnP.snoc {wr w1 w5:World} {B:Nat} {vI v':Value} {xs:List XM} {nm:ByteArray} {x:VC} {V:JV} (h:MemsOwnP wr B vI xs) (hx:NewV wr.heap.size w1 V x.val) (hB:B ≤ wr.heap.size) (hb:Below wr.heap.size wr w1)
 (hat:v'.ownBlock = vI.ownBlock ∨ v'.ownBlock = some w1.heap.size) (hown:w5.ownsRow B 61 6 v' (xs.length + 1) (xmCells xs ++ XM.cells ⟨nm,x,V⟩))
 (hg:w1.grownBy w5 vI.ownBlock):MemsOwnP w5 B v' (xs ++ [⟨nm,x,V⟩]):=by
 have hne:∀ k,k < w1.heap.size → vI.ownBlock ≠ some k → v'.ownBlock ≠ some k:=fun k hk1 hk2 => by
  rcases hat with e | e
  ·rw [e]; exact hk2
  ·rw [e]; intro e2; cases e2; omega
 have hsz:=hb.size
 refine ⟨by rw [List.length_append,xmCells_snoc]; exact hown,fun y hy => ?_⟩
 rw [List.mem_append] at hy
 rcases hy with hy | hy
 ·refine (h.2 y hy).carry fun k hk1 hk2 => ?_
  obtain ⟨a,b⟩:=offB_no.1 hk2
  exact ⟨offB_no.2 ⟨a,hne k (by omega) b⟩,(hg.block k (by omega) (fun e => b e.symm)).trans (hb.block k hk1)⟩
 ·simp only [List.mem_singleton] at hy
  subst hy
  refine ValAt.carry hx fun k hk1 hk2 => ?_
  have a:=offB_none.1 hk2
  have b:vI.ownBlock ≠ some k:=fun e => by
   have:=(World.ownsRow.lt h.1 k e).2
   omega
  exact ⟨offB_no.2 ⟨by omega,hne k hk1 b⟩,hg.block k hk1 (fun e => b e.symm)⟩
theorem MemsOwnP.at {w:World} {B:Nat} {v:Value} {xs:List XM} (h:MemsOwnP w B v xs) (hne:xs ≠ []) (hz:∀ x ∈ xs,x.name.size ≤ maxLen):MemsAt w v xs:=by
 rcases h.1.2 with ⟨_,h0⟩ | ⟨g,cap,cur,rfl,hB,hcl,hcp,_⟩
 ·exact absurd (List.length_eq_zero_iff.1 h0) hne
 ·have hcc:=World.ownsRow.cells h.1 (g:=g) rfl
  have hadd:∀ j,(⟨g,0,none⟩:Addr).add j = ⟨g,j,none⟩:=fun j => by unfold Addr.add; split <;> simp_all
  refine ⟨g,0,cap,rfl,fun i x hx j u hu => ?_,fun x hx => ⟨(h.2 x hx).imp fun p u hu => ?_,hz x hx⟩⟩
  ·have hj6:j < 6:=by have:=(List.getElem?_eq_some_iff.1 hu).1; rwa [XM.cells_len] at this
   rw [show 0 + i * 6 + j = i * 6 + j by omega,← hadd]
   exact hcc _ _ ((xmCells_get xs i x hx j hj6).trans hu)
  ·obtain ⟨-,q2,q3⟩:=(hidden_cell _ w p u).1 hu
   exact (hidden_cell _ w p u).2 ⟨rfl,q2,q3⟩
theorem ItemsOwn.keepW {w w':World} {B:Nat} {v:Value} {xs:List XI} (h:ItemsOwn w B v xs) (hb:Below w.heap.size w w'):ItemsOwn w' B v xs :=
 ⟨ownsRow_keep h.1 hb,fun x hx => (h.2 x hx).carry fun k hk hP => ⟨hP,hb.block k hk⟩⟩
theorem asc_pairsX {l:List ByteArray} (h:ascB l = true):l.Pairwise (fun a b => Op.bytesLess a.data.toList b.data.toList = true):=by
 rw [List.pairwise_iff_getElem]
 intro i j hi hj hij
 have:=asc_lt h hij hj
 rw [List.getD_eq_getElem?_getD,List.getD_eq_getElem?_getD,List.getElem?_eq_getElem hi,List.getElem?_eq_getElem hj,toList_data,toList_data] at this
 exact this
theorem mems_asc {xs:List XM} {l:List ByteArray} (h:ascB l = true) (he:xs.map XM.name = l):xs.Pairwise XLt:=by
 have:=asc_pairsX h
 rw [← he,List.pairwise_map] at this
 exact this
/-! How much there is. -/
theorem wt_textsJ {l:List ByteArray} {K n:Nat} (h:∀ s ∈ l,s.size ≤ K) (hn:l.length ≤ n):wt (textsJ l) ≤ 4 + n * (4 + K):=by
 have h1:wtL (l.map textJ) ≤ l.length * (4 + K):=by
  clear hn
  induction l with
  | nil => exact Nat.zero_le _
  | cons s r ih =>
    have h2:=h s List.mem_cons_self
    have h3:=ih (fun x hx => h x (List.mem_cons_of_mem _ hx))
    rw [List.map_cons,wtL,wt_eq]
    show 4 + s.size + 0 + 0 + _ ≤ _
    rw [List.length_cons,Nat.add_mul]
    omega
 have h2:l.length * (4 + K) ≤ n * (4 + K):=Nat.mul_le_mul_right _ hn
 rw [wt_eq]
 show 4 + 0 + 0 + wtL (l.map textJ) ≤ _
 omega
theorem wtL_le {l:List JV} {K n:Nat} (h:∀ x ∈ l,wt x ≤ K) (hn:l.length ≤ n):wtL l ≤ n * K:=by
 have h1:wtL l ≤ l.length * K:=by
  clear hn
  induction l with
  | nil => exact Nat.zero_le _
  | cons x r ih =>
    have h2:=h x List.mem_cons_self
    have h3:=ih (fun y hy => h y (List.mem_cons_of_mem _ hy))
    rw [wtL,List.length_cons,Nat.add_mul]
    omega
 exact Nat.le_trans h1 (Nat.mul_le_mul_right _ hn)
theorem wtN_leC {l:List ByteArray} {K n:Nat} (h:∀ s ∈ l,s.size ≤ K) (hn:l.length ≤ n):wtN l ≤ n * (2 + K):=by
 have h1:wtN l ≤ l.length * (2 + K):=by
  clear hn
  unfold wtN
  induction l with
  | nil => exact Nat.zero_le _
  | cons s r ih =>
    have h2:=h s List.mem_cons_self
    have h3:=ih (fun y hy => h y (List.mem_cons_of_mem _ hy))
    rw [List.map_cons,List.sum_cons,List.length_cons,Nat.add_mul]
    omega
 exact Nat.le_trans h1 (Nat.mul_le_mul_right _ hn)
theorem writ_sz {s:ByteArray} (h:writ s = true):s.size ≤ 4096:=by
 unfold writ at h
 rw [Bool.and_eq_true,decide_eq_true_eq] at h
 exact h.1
theorem may_bounds {M:MapP} (h:mayM M = true):(∀ r ∈ M.repos,r.1.size ≤ 64 ∧ r.2.length ≤ 8 ∧ wt (textsJ r.2) ≤ 100000) ∧ (∀ x ∈ M.maps,x.paths.length ≤ 32 ∧ x.repos.length ≤ 8 ∧ wt (textsJ x.paths) ≤ 100000 ∧ wt (textsJ x.repos) ≤ 100000 ∧ wt (mapgJ x) ≤ 1000000):=by
 obtain ⟨-,h2,-,-,h5,h6⟩:=mayM_parts h
 refine ⟨fun r hr => ?_,fun x hx => ?_⟩
 ·obtain ⟨a,b,c⟩:=h5 r hr
  have:=wt_textsJ (K:=4096) (fun s hs => writ_sz (c s hs)) b
  exact ⟨(role_writ a).2,b,by omega⟩
 ·obtain ⟨-,p2,p3,-,p5,p6,-⟩:=wrongV_parts (h6 x hx)
  have hR:(namesR M.repos).length ≤ 8:=by rw [namesR,List.length_map]; exact h2
  have hr8:x.repos.length ≤ 8:=by omega
  have k1:=wt_textsJ (K:=256) (fun s hs => (path_writ (p3 s hs)).2) p2
  have k2:=wt_textsJ (l:=x.repos) (K:=64) (fun s hs => by
   obtain ⟨r,hr,rfl⟩:=names_mem (p6 s hs)
   exact (role_writ (h5 r hr).1).2) hr8
  refine ⟨p2,hr8,by omega,by omega,?_⟩
  rw [wt_eq]
  show 4 + 0 + wtN [tPaths,tRepos,tTerm,tThr] + wtL [textsJ x.paths,textsJ x.repos,boolJ x.term,numJ x.thr] ≤ _
  have k3:wtN [tPaths,tRepos,tTerm,tThr] ≤ 100:=by decide
  have k4:wt (boolJ x.term) = 4:=by rw [wt_eq]; rfl
  have k5:wt (numJ x.thr) = 4:=by rw [wt_eq]; rfl
  simp only [wtL,k4,k5]
  omega
def cvaD (B tb:Nat) (sv:Value) (nm:ByteArray) (uv:Value) (V:JV) (k:Nat) (v:Value) (w:World):Prop :=
 match k with
 | 0 => v = sv
 | 1 => v = .pointer (some ⟨tb,0,none⟩)
 | 2 => v = .string nm
 | 3 => v = .pointer (some ⟨tb,1,none⟩)
 | 4 => v = uv
 | 5 => ∃ y:VC,v = y.val ∧ NewV B w V y.val
 | 6 => ∃ y:VC,v = .agg #[.string nm,.int .u8 y.k,.int .i64 y.n,.string y.t,.slice y.a y.l y.c,.slice y.b y.m y.e] ∧ NewV B w V y.val
 | 7 => ∃ (b:Nat) (y:VC),v = .slice (some ⟨b,0,none⟩) 1 1 ∧ NewV B w V y.val ∧ BlkAt w b 61 #[.string nm,.int .u8 y.k,.int .i64 y.n,.string y.t,.slice y.a y.l y.c,.slice y.b y.m y.e]
 | _ => True
theorem cvaD_keep {B tb:Nat} {sv:Value} {nm:ByteArray} {uv:Value} {V:JV}:∀ k v w w',cvaD B tb sv nm uv V k v w → Below w.heap.size w w' → cvaD B tb sv nm uv V k v w':=by
 intro k v w w' h hb
 unfold cvaD at h ⊢
 split at h <;> try exact h
 ·obtain ⟨y,h1,h2⟩:=h
  exact ⟨y,h1,h2.keepB hb⟩
 ·obtain ⟨y,h1,h2⟩:=h
  exact ⟨y,h1,h2.keepB hb⟩
 ·obtain ⟨b,y,h1,h2,h3⟩:=h
  exact ⟨b,y,h1,h2.keepB hb,BlkAt.keep h3 hb⟩
def cvbD (B _bb:Nat) (sv:Value) (z:VC) (L _R O:JV) (k:Nat) (v:Value) (w:World):Prop :=
 match k with
 | 0 => v = sv
 | 1 => ∃ y:VC,v = y.val ∧ ValAt (pureW w) L y.val
 | 2 => ∃ y:VC,v = .agg #[.string tMapping,.int .u8 y.k,.int .i64 y.n,.string y.t,.slice y.a y.l y.c,.slice y.b y.m y.e] ∧ ValAt (pureW w) L y.val
 | 3 => v = z.val
 | 4 => v = .agg #[.string tRepos,.int .u8 z.k,.int .i64 z.n,.string z.t,.slice z.a z.l z.c,.slice z.b z.m z.e]
 | 5 => ∃ (b:Nat) (y:VC),v = .slice (some ⟨b,0,none⟩) 2 2 ∧ ValAt (pureW w) L y.val ∧ BlkAt w b 61 #[.string tMapping,.int .u8 y.k,.int .i64 y.n,.string y.t,.slice y.a y.l y.c,.slice y.b y.m y.e,.string tRepos,.int .u8 z.k,.int .i64 z.n,.string z.t,.slice z.a z.l z.c,.slice z.b z.m z.e]
 | 6 => ∃ y:VC,v = .tuple #[y.val,.int .i64 0] ∧ NewV B w O y.val
 | 7 => ∃ y:VC,v = y.val ∧ NewV B w O y.val
 | 8 => v = .int .i64 0
 | _ => True
theorem cvbD_keep {B bb:Nat} {sv:Value} {z:VC} {L R O:JV}:∀ k v w w',cvbD B bb sv z L R O k v w → Below w.heap.size w w' → cvbD B bb sv z L R O k v w':=by
 intro k v w w' h hb
 unfold cvbD at h ⊢
 split at h <;> try exact h
 ·obtain ⟨y,h1,h2⟩:=h
  exact ⟨y,h1,h2.imp (pure_keep hb)⟩
 ·obtain ⟨y,h1,h2⟩:=h
  exact ⟨y,h1,h2.imp (pure_keep hb)⟩
 ·obtain ⟨b,y,h1,h2,h3⟩:=h
  exact ⟨b,y,h1,h2.imp (pure_keep hb),BlkAt.keep h3 hb⟩
 ·obtain ⟨y,h1,h2⟩:=h
  exact ⟨y,h1,h2.keepB hb⟩
 ·obtain ⟨y,h1,h2⟩:=h
  exact ⟨y,h1,h2.keepB hb⟩
def chartX (M:MapP) (p r:VC):List XM:=[⟨tMapping,p,listJ (M.maps.map mapgJ)⟩,⟨tRepos,r,reposJ M.repos⟩]
theorem objectOf_chart (M:MapP) (p r:VC) (b c:Nat) (w:World) (hm:mayM M = true) (hp:ValAt (pureW w) (listJ (M.maps.map mapgJ)) p.val) (hr:ValAt (pureW w) (reposJ M.repos) r.val)
 (hc:∀ j u,(xmCells (chartX M p r))[j]? = some u → w.cell? ⟨b,j,none⟩ = some u) :
 Calls Tryz.prog 24 #[.slice (some ⟨b,0,none⟩) 2 c] w fun e w' => ∃ y:VC,e = .returned (.tuple #[y.val,.int .i64 0]) ∧ Below w.heap.size w w' ∧ NewV w.heap.size w' (chartJ M) y.val:=by
 have hb:=may_bounds hm
 obtain ⟨-,h2,h3,-⟩:=mayM_parts hm
 rw [show chartJ M = objJ (chartX M p r) from rfl]
 refine objectOf_any (chartX M p r) _ w ⟨b,0,c,rfl,fun i y hy j u hu => ?_,fun y hy => ?_⟩ (by simp [chartX]) (by simp [chartX]) ?_ (fun y hy => ?_)
 ·refine hc _ _ ?_ |> fun h => by rwa [Nat.zero_add]
  have hj6:j < 6:=by have:=(List.getElem?_eq_some_iff.1 hu).1; rwa [XM.cells_len] at this
  rw [xmCells_get _ i y hy j hj6]
  exact hu
 ·simp only [chartX,List.mem_cons,List.not_mem_nil,or_false] at hy
  rcases hy with rfl | rfl
  ·exact ⟨hp,by show tMapping.size ≤ maxLen; decide⟩
  ·exact ⟨hr,by show tRepos.size ≤ maxLen; decide⟩
 ·unfold chartX XLt
  simp only [List.pairwise_cons,List.mem_cons,List.not_mem_nil,or_false,forall_eq,List.Pairwise.nil,and_true]
  refine ⟨?_,?_⟩ <;> first | kernel_rfl | simp
 ·simp only [chartX,List.mem_cons,List.not_mem_nil,or_false] at hy
  rcases hy with rfl | rfl
  ·show wt (listJ (M.maps.map mapgJ)) ≤ _
   rw [wt_eq]
   show 4 + 0 + 0 + wtL (M.maps.map mapgJ) ≤ _
   have:=wtL_le (l:=M.maps.map mapgJ) (K:=1000000) (n:=16) (fun y hy => by
    obtain ⟨x,hx,rfl⟩:=List.mem_map.1 hy
    exact (hb.2 x hx).2.2.2.2) (by rw [List.length_map]; exact h3)
   omega
  ·show wt (reposJ M.repos) ≤ _
   rw [wt_eq]
   show 4 + 0 + wtN (namesR M.repos) + wtL (M.repos.map fun r => textsJ r.2) ≤ _
   have k1:=wtL_le (l:=M.repos.map fun r => textsJ r.2) (K:=100000) (n:=8) (fun y hy => by
    obtain ⟨x,hx,rfl⟩:=List.mem_map.1 hy
    exact (hb.1 x hx).2.2) (by rw [List.length_map]; exact h2)
   have k2:=wtN_leC (l:=namesR M.repos) (K:=64) (n:=8) (fun s hs => by
    obtain ⟨r,hr,rfl⟩:=names_mem hs
    exact (hb.1 r hr).1) (by rw [namesR,List.length_map]; exact h2)
   omega
set_option maxHeartbeats 64000000 in
theorem cValue_any (M:MapP) (v:Value) (w:World) (h:MapAt w v M) :
 Calls Tryz.prog 7 #[v] w fun e w' => Below w.heap.size w w' ∧ ((mayM M = false ∧ e = .returned (.tuple #[.agg #[.int .u8 0,.int .i64 0,.string ⟨#[]⟩,.slice none 0 0,.slice none 0 0],.int .i64 3])) ∨ (mayM M = true ∧ ∃ y:VC,e = .returned (.tuple #[y.val,.int .i64 0]) ∧ NewV w.heap.size w' (chartJ M) y.val)):=by
 have HMH:=Lib.hid h
 obtain ⟨a1,c1,a2,c2,rfl,hr,hm⟩:=h.parts
 obtain ⟨ra',rc',e0,-,hrc⟩:=hr.at
 simp only [Value.slice.injEq,true_and] at e0
 obtain ⟨rfl,rfl⟩:=e0
 obtain ⟨ma',mc',e1,-,hmc⟩:=hm.at
 simp only [Value.slice.injEq,true_and] at e1
 obtain ⟨rfl,rfl⟩:=e1
 obtain ⟨rs,hrs⟩:∃ x,M.repos = x:=⟨_,rfl⟩
 obtain ⟨ms,hms⟩:∃ x,M.maps = x:=⟨_,rfl⟩
 obtain ⟨n1,hn1⟩:∃ n,rs.length = n:=⟨_,rfl⟩
 obtain ⟨n2,hn2⟩:∃ n,ms.length = n:=⟨_,rfl⟩
 rw [hrs] at hr hrc HMH ⊢
 rw [hms] at hm hmc HMH ⊢
 rw [hn1] at HMH ⊢
 rw [hn2] at HMH ⊢
 obtain ⟨W,hW⟩:∃ y,y = (w.alloc (.cells #[.slice a1 n1 c1,.slice a2 n2 c2] 25)).alloc (.cells #[.int .u8 0,.int .i64 0,.string ⟨#[]⟩,.slice none 0 0,.slice none 0 0] 31):=⟨_,rfl⟩
 have hbW:Below w.heap.size w W:=by rw [hW]; exact bel_alloc (bel_alloc (Below.refl _ _) _) _
 have hK0:BlkAt W w.heap.size 25 #[.slice a1 n1 c1,.slice a2 n2 c2]:=by rw [hW]; exact (blkAt_new w _ _).alloc _
 have hK1:BlkAt W (w.heap.size + 1) 31 #[.int .u8 0,.int .i64 0,.string ⟨#[]⟩,.slice none 0 0,.slice none 0 0]:=by
  rw [hW]
  have:=blkAt_new (w.alloc (.cells #[.slice a1 n1 c1,.slice a2 n2 c2] 25)) #[.int .u8 0,.int .i64 0,.string ⟨#[]⟩,.slice none 0 0,.slice none 0 0] 31
  rwa [size_al] at this
 have hsW:W.heap.size = w.heap.size + 2:=by rw [hW,size_al,size_al]
 have HMAY:=Lib.hid (fun Y (hb:Below w.heap.size w Y) => cMay_any M _ Y (HMH.out.keep hb))
 obtain ⟨mb,hmb⟩:∃ b,mayM M = b:=⟨_,rfl⟩
 rw [hmb] at HMAY ⊢
 have HK0:=Lib.hid hK0
 have HK1:=Lib.hid hK1
 have HBW:=Lib.hid hbW
 have HSW:=Lib.hid hsW
 have HW:=Lib.hid hW
 have HRC:=Lib.hid hrc
 have HMC:=Lib.hid hmc
 have HN1:=Lib.hid hn1
 have HN2:=Lib.hid hn2
 have HRS:=Lib.hid hrs
 have HMS:=Lib.hid hms
 have HMB:=Lib.hid hmb
 obtain ⟨i0,hi,hz0,hz1,hz2⟩:=info_parts infoVal
 have HI:=Lib.hid hi
 have HZ0:=Lib.hid hz0
 have HZ1:=Lib.hid hz1
 have HZ2:=Lib.hid hz2
 obtain ⟨j0,hj,hy0,hy1,hy2⟩:=info_parts infoPM
 have HJ:=Lib.hid hj
 have HY0:=Lib.hid hy0
 have HY1:=Lib.hid hy1
 have HY2:=Lib.hid hy2
 obtain ⟨k0,k1,kf⟩:=b2 HK0.out
 clear hr hm hrc hmc hn1 hn2 hrs hms hmb hK0 hK1 hbW hsW hW hi hz0 hz1 hz2 hj hy0 hy1 hy2 HMH
 go_enter Tryz.func7,Tryz.ntmps7
 go_wp2_with fail
 rw [← HW.out]
 refine (HMAY.out _ HBW.out).mono ?_
 rintro e w1 ⟨rfl,hb1⟩
 have HB1:=Lib.hid (below_more HBW.out hb1)
 have HL0:=Lib.hid (BlkAt.keep HK0.out hb1)
 have HL1:=Lib.hid (BlkAt.keep HK1.out hb1)
 have hs1:w.heap.size + 2 ≤ w1.heap.size:=by have:=hb1.size; have:=HSW.out; omega
 obtain ⟨k0,k1,kf⟩:=b2 HL0.out
 obtain ⟨z0,z1,z2,z3,z4,zf⟩:=b5 HL1.out
 clear hb1 HMAY HW
 cases mb with
 | false =>
   have HB5:=Lib.hid (bset5 HB1.out (Nat.le_succ _) (.int .u8 0) (.int .i64 0) (.string ⟨#[]⟩) (.slice none 0 0) (.slice none 0 0))
   have HR5:=Lib.hid (blk_set5 HL1.out (.int .u8 0) (.int .i64 0) (.string ⟨#[]⟩) (.slice none 0 0) (.slice none 0 0))
   obtain ⟨q0,q1,q2,q3,q4,-⟩:=b5 HR5.out
   go_wp2_with fail
   exact bodyPost_ret (v:=.tuple #[.agg #[.int .u8 0,.int .i64 0,.string ⟨#[]⟩,.slice none 0 0,.slice none 0 0],.int .i64 3]) (by simp [results,Tryz.results7,go_sem,q0,q1,q2,q3,q4]) rfl ⟨HB5.out,by first | rfl | exact Or.inl ⟨rfl,rfl⟩⟩
 | true =>
   have hbd:=may_bounds HMB.out
   have hpt:=mayM_parts HMB.out
   rw [HRS.out,HMS.out] at hbd hpt
   obtain ⟨m1,m2,m3,m4,-,m6⟩:=hpt
   rw [HN1.out] at m1 m2
   rw [HN2.out] at m3
   have HBD:=Lib.hid hbd
   have HAS:=Lib.hid m4
   clear hbd m4 m6 z0 z1 z2 z3 z4 zf
   go_wp2_with fail
   go_loopw [4,21] (fun vl i wr => ∃ (j:Nat) (xs:List XM) (ia:Option Addr) (ic:Nat),j ≤ n1 ∧ i = .int .i64 j ∧ vl = .slice ia j ic ∧ xs.length = j ∧ Hid (xs.map (fun x => (x.name,x.V)) = (rs.take j).map fun r => (r.1,textsJ r.2)) ∧ Hid (MemsOwnP wr w1.heap.size (.slice ia j ic) xs) ∧ Hid (Below w1.heap.size w1 wr)) (fun _ i _ => n1 - (intOf i).toNat)
   case atStart => exact ⟨0,[],none,0,by omega,rfl,rfl,rfl,rfl,MemsOwnP.nil _ _,Below.refl _ _⟩
   case round =>
    obtain ⟨j,xs,ia,ic,hj,rfl,rfl,hxs,HXS,HO,HB⟩:=hrel
    have l0:=cell_keep HB.out k0
    have l1:=cell_keep HB.out k1
    by_cases hjn:j < n1
    ·obtain ⟨r,hr⟩:∃ s,rs[j]? = some s:=⟨_,List.getElem?_eq_getElem (by rw [HN1.out]; exact hjn)⟩
     obtain ⟨xb,xo,ua,uc,rfl,t0,t1,hsz,s1⟩:=HRC.out j r hr
     have hbr:=HBD.out.1 r (List.mem_of_getElem? hr)
     obtain ⟨nm,us⟩:=r
     simp only at t0 t1 hsz s1 hbr
     obtain ⟨ul,hul⟩:∃ z,us.length = z:=⟨_,rfl⟩
     rw [hul] at t1 s1 hbr
     have HBr:=Lib.hid (below_more HB1.out HB.out)
     have t0:=cell_keep HBr.out t0
     have t1:=cell_keep HBr.out t1
     have i0':(0:Int) ≤ (j:Int):=by omega
     have i1':(j:Int) < (n1:Int):=by omega
     have HS1:=Lib.hid s1
     have HR:=Lib.hid hr
     have HUL:=Lib.hid hul
     clear hr hul s1
     go_wp2_with fail
     have hba:Below wr.heap.size wr (wr.alloc (.cells #[.string nm,.slice ua ul uc] 47)):=bel_alloc (Below.refl _ _) _
     have HT1:Hid (BlkAt (wr.alloc (.cells #[.string nm,.slice ua ul uc] 47)) wr.heap.size 47 #[.string nm,.slice ua ul uc]):=blkAt_new wr _ _
     have HQ:=Lib.hid hba
     have HO2:=Lib.hid (HO.out.keep hba)
     have hsa:=size_al wr (.cells #[.string nm,.slice ua ul uc] 47)
     clear hba
     generalize wr.alloc (.cells #[.string nm,.slice ua ul uc] 47) = w2 at HT1 HQ HO2 hsa ⊢
     have HB2:=Lib.hid (below_more HB.out HQ.out)
     have HTX:Hid (∀ Y,Below w2.heap.size w2 Y → Calls Tryz.prog 23 #[.slice ua ul uc] Y fun e w' => ∃ y:VC,e = .returned y.val ∧ Below Y.heap.size Y w' ∧ NewV Y.heap.size w' (textsJ us) y.val):=fun Y hY => textsOf_any us _ Y (HS1.out.keep (below_more (below_more HBr.out HQ.out) hY)) (by rw [HUL.out]; omega)
     obtain ⟨tb,htb⟩:∃ z,wr.heap.size = z:=⟨_,rfl⟩
     rw [htb] at HT1 hsa ⊢
     obtain ⟨u0,u1,uf⟩:=b2 HT1.out
     have hw1r:w1.heap.size ≤ tb:=by rw [← htb]; exact HB.out.size
     have HTB:=Lib.hid htb
     clear htb t0 t1
     refine wp_region_any (by kernel_rfl) ?_
     refine wpAny_puts [(0,some 25),(1,some 26),(2,some 27),(3,some 28),(4,some 29),(5,some 30),(6,some 31),(7,some 32)] 8 [9] (by kernel_rfl) (by kernel_rfl) (of_decide_eq_true (by kernel_rfl)) (fun w' => Below w2.heap.size w2 w') (cvaD w2.heap.size tb (.slice ia j ic) nm (.slice ua ul uc) (textsJ us)) cvaD_keep (bel_drew (Below.refl _ _)) ?_ ?_
     ·
      refine PutSteps.at rfl (fun vs Y hG hdep K hK => ?_) ?_
      ·simp only [putsOf,List.foldl_cons,List.foldl_nil,Act.put,List.setIfInBounds_toArray,List.set_cons_zero,List.set_cons_succ] at hK ⊢
       go_simp
       exact hK.out (.slice ia j ic) _ _ rfl hG (Below.refl _ _) rfl
      refine PutSteps.at rfl (fun vs Y hG hdep K hK => ?_) ?_
      ·simp only [putsOf,List.foldl_cons,List.foldl_nil,Act.put,List.setIfInBounds_toArray,List.set_cons_zero,List.set_cons_succ] at hK ⊢
       go_simp
       exact hK.out (.pointer (some ⟨tb,0,none⟩)) _ _ rfl hG (Below.refl _ _) rfl
      refine PutSteps.at rfl (fun vs Y hG hdep K hK => ?_) ?_
      ·have e0:vs 1 = .pointer (some ⟨tb,0,none⟩):=hdep 1 rfl (by kernel_rfl)
       have y0:=cell_keep hG u0
       simp only [putsOf,List.foldl_cons,List.foldl_nil,Act.put,List.setIfInBounds_toArray,List.set_cons_zero,List.set_cons_succ] at hK ⊢
       rw [e0] at hK ⊢
       go_simp
       exact hK.out (.string nm) _ _ rfl hG (Below.refl _ _) rfl
      refine PutSteps.at rfl (fun vs Y hG hdep K hK => ?_) ?_
      ·simp only [putsOf,List.foldl_cons,List.foldl_nil,Act.put,List.setIfInBounds_toArray,List.set_cons_zero,List.set_cons_succ] at hK ⊢
       go_simp
       exact hK.out (.pointer (some ⟨tb,1,none⟩)) _ _ rfl hG (Below.refl _ _) rfl
      refine PutSteps.at rfl (fun vs Y hG hdep K hK => ?_) ?_
      ·have e0:vs 3 = .pointer (some ⟨tb,1,none⟩):=hdep 3 rfl (by kernel_rfl)
       have y0:=cell_keep hG u1
       simp only [putsOf,List.foldl_cons,List.foldl_nil,Act.put,List.setIfInBounds_toArray,List.set_cons_zero,List.set_cons_succ] at hK ⊢
       rw [e0] at hK ⊢
       go_simp
       exact hK.out (.slice ua ul uc) _ _ rfl hG (Below.refl _ _) rfl
      refine PutSteps.at rfl (fun vs Y hG hdep K hK => ?_) ?_
      ·have e0:vs 4 = .slice ua ul uc:=hdep 4 rfl (by kernel_rfl)
       simp only [putsOf,List.foldl_cons,List.foldl_nil,Act.put,List.setIfInBounds_toArray,List.set_cons_zero,List.set_cons_succ] at hK ⊢
       rw [e0] at hK ⊢
       go_simp
       refine (HTX.out _ hG).mono ?_
       rintro e w4 ⟨⟨yk,yn,yt,ya,yl,yc,yb,ym,ye⟩,rfl,hb4,hv4⟩
       exact hK.out (.agg #[.int .u8 yk,.int .i64 yn,.string yt,.slice ya yl yc,.slice yb ym ye]) _ _ rfl (below_more hG hb4) hb4 ⟨⟨yk,yn,yt,ya,yl,yc,yb,ym,ye⟩,rfl,NewV.low hv4 hG.size⟩
      refine PutSteps.at rfl (fun vs Y hG hdep K hK => ?_) ?_
      ·have e1:vs 2 = .string nm:=hdep 2 rfl (by kernel_rfl)
       obtain ⟨⟨yk,yn,yt,ya,yl,yc,yb,ym,ye⟩,e0,hv⟩:=show ∃ y:VC,vs 5 = y.val ∧ NewV w2.heap.size Y (textsJ us) y.val from hdep 5 rfl (by kernel_rfl)
       simp only [VC.val] at e0
       simp only [putsOf,List.foldl_cons,List.foldl_nil,Act.put,List.setIfInBounds_toArray,List.set_cons_zero,List.set_cons_succ] at hK ⊢
       rw [e0,e1] at hK ⊢
       go_simp
       exact hK.out (.agg #[.string nm,.int .u8 yk,.int .i64 yn,.string yt,.slice ya yl yc,.slice yb ym ye]) _ _ rfl hG (Below.refl _ _) ⟨⟨yk,yn,yt,ya,yl,yc,yb,ym,ye⟩,rfl,hv⟩
      refine PutSteps.at rfl (fun vs Y hG hdep K hK => ?_) PutSteps.nil
      ·obtain ⟨⟨yk,yn,yt,ya,yl,yc,yb,ym,ye⟩,e0,hv⟩:=show ∃ y:VC,vs 6 = .agg #[.string nm,.int .u8 y.k,.int .i64 y.n,.string y.t,.slice y.a y.l y.c,.slice y.b y.m y.e] ∧ NewV w2.heap.size Y (textsJ us) y.val from hdep 6 rfl (by kernel_rfl)
       simp only at e0
       simp only [putsOf,List.foldl_cons,List.foldl_nil,Act.put,List.setIfInBounds_toArray,List.set_cons_zero,List.set_cons_succ] at hK ⊢
       rw [e0] at hK ⊢
       go_simp
       exact hK.out (.slice (some ⟨Y.heap.size,0,none⟩) 1 1) _ _ rfl (bel_alloc hG _) (bel_alloc (Below.refl _ _) _) ⟨Y.heap.size,⟨yk,yn,yt,ya,yl,yc,yb,ym,ye⟩,rfl,hv.keepB (bel_alloc (Below.refl _ _) _),blkAt_newC _ _ _⟩
     ·intro vs Y hG hdep
      have e0:vs 0 = .slice ia j ic:=hdep 0 rfl
      obtain ⟨bb,⟨yk,yn,yt,ya,yl,yc,yb,ym,ye⟩,e7,hv7,hB7⟩:=show ∃ (b:Nat) (y:VC),vs 7 = .slice (some ⟨b,0,none⟩) 1 1 ∧ NewV w2.heap.size Y (textsJ us) y.val ∧ BlkAt Y b 61 #[.string nm,.int .u8 y.k,.int .i64 y.n,.string y.t,.slice y.a y.l y.c,.slice y.b y.m y.e] from hdep 7 rfl
      simp only [putsOf,List.foldl_cons,List.foldl_nil,Act.put,List.setIfInBounds_toArray,List.set_cons_zero,List.set_cons_succ]
      simp only [List.filterMap_cons,List.filterMap_nil,nthO]
      rw [e0,e7]
      have hoY:=(HO2.out.keep hG).1
      rw [hxs] at hoY
      have hsY:=hG.size
      have hj8:j ≤ 8:=by omega
      refine wpList_step fun K hK => ?_
      refine step_append_lies Y rfl _ _ _ rfl w1.heap.size 61 j0 _ 6 96 Tryz.underlying58 HJ.out HY0.out HY1.out HY2.out rfl (by decide) (.slice ia j ic) j (xmCells xs) rfl hoY ⟨bb,0,none⟩ 1 1 [.string nm,.int .u8 yk,.int .i64 yn,.string yt,.slice ya yl yc,.slice yb ym ye] rfl rfl (World.news_of_block (fr:=(0,0)) hB7) (by intro u hu; simp only [List.mem_cons,List.not_mem_nil,or_false] at hu; rcases hu with rfl | rfl | rfl | rfl | rfl | rfl <;> rfl) (by decide) (by unfold maxLen; omega) (by omega) (by omega) Y.heap.size rfl ?_
      intro gg cp' w6 hown6 hgrow hat hlt
      refine hK _ _ ?_
      have hrY:Below wr.heap.size wr Y:=below_more HQ.out hG
      have hI8:=Lib.hid (MemsOwnP.snoc (v':=.slice (some ⟨gg,0,none⟩) (j + 1) cp') (nm:=nm) (x:=⟨yk,yn,yt,ya,yl,yc,yb,ym,ye⟩) (V:=textsJ us) HO.out (NewV.low hv7 HQ.out.size) HB.out.size hrY (hat.elim (fun e => Or.inl e.symm) (fun e => Or.inr (by rw [e]; rfl))) (by rw [hxs]; exact hown6) hgrow)
      have hB8:Hid (Below w1.heap.size w1 w6):=(below_more HB.out hrY).grown hgrow (by have:=HB.out.size; have:=hrY.size; omega) (fun k hk => (World.ownsRow.lt HO.out.1 k hk).1)
      have hX8:Hid ((xs ++ [(⟨nm,⟨yk,yn,yt,ya,yl,yc,yb,ym,ye⟩,textsJ us⟩:XM)]).map (fun x => (x.name,x.V)) = (rs.take (j + 1)).map fun r => (r.1,textsJ r.2)):=by
       show _ = _
       rw [List.map_append,HXS.out,List.take_add_one,HR.out]
       simp
      clear hown6 hgrow hat hlt hdep hv7 hB7 e0 e7 hoY hrY
      refine wpList_plain rfl fun K hK => ?_
      go_simp
      refine hK _ _ ?_
      refine wpList_nil ?_
      go_wp2_with fail
      exact ⟨⟨j + 1,_,some ⟨gg,0,none⟩,cp',by omega,by go_num,rfl,by rw [List.length_append,hxs]; rfl,hX8,hI8,hB8⟩,by simp [intOf]; omega⟩
    ·obtain rfl:j = n1:=by omega
     have i1':¬ (j:Int) < (j:Int):=by omega
     have hxa:xs.map (fun x => (x.name,x.V)) = rs.map fun r => (r.1,textsJ r.2):=by
      have:=HXS.out
      rwa [List.take_of_length_le (by rw [HN1.out]; exact Nat.le_refl _)] at this
     have hxn:xs.map XM.name = namesR rs:=by
      have:=congrArg (List.map Prod.fst) hxa
      rw [List.map_map,List.map_map] at this
      exact this
     have hxv:xs.map XM.V = rs.map fun r => textsJ r.2:=by
      have:=congrArg (List.map Prod.snd) hxa
      rw [List.map_map,List.map_map] at this
      exact this
     have hne:xs ≠ []:=fun e => by rw [e] at hxs; simp at hxs; omega
     have hin:∀ x ∈ xs,x.name.size ≤ maxLen ∧ wt x.V ≤ 1000000000:=fun x hx => by
      have h1:(x.name,x.V) ∈ xs.map (fun x => (x.name,x.V)):=List.mem_map.2 ⟨x,hx,rfl⟩
      rw [hxa] at h1
      obtain ⟨r,hr,e⟩:=List.mem_map.1 h1
      have h2:=HBD.out.1 r hr
      simp only [Prod.mk.injEq] at e
      rw [← e.1,← e.2]
      unfold maxLen
      omega
     have HOB:=Lib.hid (objectOf_any xs (.slice ia j ic) wr (HO.out.at hne (fun x hx => (hin x hx).1)) hne (by omega) (mems_asc HAS.out hxn) (fun x hx => (hin x hx).2))
     rw [show objJ xs = reposJ rs from by unfold objJ reposJ; rw [hxn,hxv]] at HOB
     clear hxa hxn hxv hne hin HXS HO
     go_wp2_with fail
     refine HOB.out.mono ?_
     rintro e w3 ⟨⟨rk,rn,rt,ra,rl,rc,rb,rm,re⟩,rfl,hb3,hv3⟩
     simp only [VC.val]
     clear HOB
     obtain ⟨w4,hw4⟩:∃ y,y = w3.alloc (.cells #[.int .u8 rk,.int .i64 rn,.string rt,.slice ra rl rc,.slice rb rm re] 31):=⟨_,rfl⟩
     have hba:Below w3.heap.size w3 w4:=by rw [hw4]; exact bel_alloc (Below.refl _ _) _
     have HK2:Hid (BlkAt w4 w3.heap.size 31 #[.int .u8 rk,.int .i64 rn,.string rt,.slice ra rl rc,.slice rb rm re]):=by rw [hw4]; exact blkAt_new w3 _ _
     have HV2:Hid (ValAt (pureW w4) (reposJ rs) (VC.val ⟨rk,rn,rt,ra,rl,rc,rb,rm,re⟩)):=valOf_pure hv3 hba
     have HB4:=Lib.hid (below_more (below_more HB.out hb3) hba)
     have hs4:w.heap.size + 2 ≤ w4.heap.size:=Nat.le_trans hs1 HB4.out.size
     have HW4:=Lib.hid hw4
     clear l0 l1
     have l0:=cell_keep HB4.out k0
     have l1:=cell_keep HB4.out k1
     rw [HW4.out] at l0 l1
     clear hba hb3 hv3 HB hw4
     go_wp2_with fail
     rw [← HW4.out] at l0 l1 ⊢
     obtain ⟨rbk,hrb⟩:∃ z,w3.heap.size = z:=⟨_,rfl⟩
     rw [hrb] at HK2 ⊢
     clear hrb HW4
     go_loopw [9,47] (fun vl i wr => ∃ (f:Nat) (xs:List XI) (ia:Option Addr) (ic:Nat),f ≤ n2 ∧ i = .int .i64 f ∧ vl = .slice ia f ic ∧ xs.length = f ∧ Hid (xs.map Prod.snd = (ms.take f).map mapgJ) ∧ Hid (ItemsOwn wr w4.heap.size (.slice ia f ic) xs) ∧ Hid (Below w4.heap.size w4 wr)) (fun _ i _ => n2 - (intOf i).toNat)
     case atStart => exact ⟨0,[],none,0,by omega,rfl,rfl,rfl,rfl,ItemsOwn.nil _ _,Below.refl _ _⟩
     case round =>
      obtain ⟨f,ys,va,vc,hf,rfl,rfl,hys,HYS,HIr,HBf⟩:=hrel
      have l0:=cell_keep HBf.out l0
      have l1:=cell_keep HBf.out l1
      by_cases hfn:f < n2
      ·obtain ⟨x,hx⟩:∃ s,ms[f]? = some s:=⟨_,List.getElem?_eq_getElem (by rw [HN2.out]; exact hfn)⟩
       obtain ⟨xb,xo,b1,d1,b2',d2,rfl,p0,p1,p2,p3,-,-,hpx⟩:=HMC.out f x hx
       have hbx:=HBD.out.2 x (List.mem_of_getElem? hx)
       have HBr:=Lib.hid (below_more (below_more HB1.out HB4.out) HBf.out)
       have p0:=cell_keep HBr.out p0
       have p1:=cell_keep HBr.out p1
       have p2:=cell_keep HBr.out p2
       have p3:=cell_keep HBr.out p3
       have i0':(0:Int) ≤ (f:Int):=by omega
       have i1'':(f:Int) < (n2:Int):=by omega
       obtain ⟨n3,hn3⟩:∃ z,x.paths.length = z:=⟨_,rfl⟩
       obtain ⟨n4,hn4⟩:∃ z,x.repos.length = z:=⟨_,rfl⟩
       have HVO:=Lib.hid (fun Y (hb:Below w.heap.size w Y) => valueOf_any x _ Y (hpx.keep hb) (by omega) (by omega) (by omega) (by omega))
       rw [hn3,hn4] at HVO
       rw [hn3] at p0
       rw [hn4] at p1
       obtain ⟨bt,hbt⟩:∃ z,x.term = z:=⟨_,rfl⟩
       obtain ⟨th,hth⟩:∃ z,x.thr = z:=⟨_,rfl⟩
       rw [hbt] at p2 HVO
       rw [hth] at p3 HVO
       have HX:=Lib.hid hx
       obtain ⟨w5,hw5⟩:∃ y,y = wr.alloc (.cells #[.slice b1 n3 d1,.slice b2' n4 d2,.bool bt,.int .i64 th] 50):=⟨_,rfl⟩
       have hb5:Below wr.heap.size wr w5:=by rw [hw5]; exact bel_alloc (Below.refl _ _) _
       have HX5:Hid (BlkAt w5 wr.heap.size 50 #[.slice b1 n3 d1,.slice b2' n4 d2,.bool bt,.int .i64 th]):=by rw [hw5]; exact blkAt_new wr _ _
       have HB5:=Lib.hid hb5
       have HW5:=Lib.hid hw5
       obtain ⟨x0,x1,x2,x3,xf⟩:=b4' HX5.out
       rw [HW5.out] at x0 x1 x2 x3 xf
       clear hx hpx hbx hn3 hn4 hbt hth hb5 hw5
       go_wp2_with fail
       rw [← HW5.out]
       refine (HVO.out _ (below_more HBr.out HB5.out)).mono ?_
       rintro e w6 ⟨⟨yk,yn,yt,ya,yl,yc,yb,ym,ye⟩,rfl,hb6,hv6⟩
       simp only [VC.val]
       obtain ⟨w7,hw7⟩:∃ y,y = w6.alloc (.cells #[.int .u8 yk,.int .i64 yn,.string yt,.slice ya yl yc,.slice yb ym ye] 31):=⟨_,rfl⟩
       have hb7:Below w6.heap.size w6 w7:=by rw [hw7]; exact bel_alloc (Below.refl _ _) _
       have hs7:w7.heap.size = w6.heap.size + 1:=by rw [hw7,size_al]
       have HX7:Hid (BlkAt w7 w6.heap.size 31 #[.int .u8 yk,.int .i64 yn,.string yt,.slice ya yl yc,.slice yb ym ye]):=by rw [hw7]; exact blkAt_new w6 _ _
       have HW7:=Lib.hid hw7
       obtain ⟨v0,v1,v2,v3,v4,vf⟩:=b5 HX7.out
       rw [HW7.out] at v0 v1 v2 v3 v4 vf
       have HB7:=Lib.hid (below_more (below_more HB5.out hb6) hb7)
       have HNV:=Lib.hid (NewV.low (hv6.keepB hb7) HB5.out.size)
       have hO7:=(ItemsOwn.keepW HIr.out HB7.out).1
       rw [hys] at hO7
       have hsz7:w4.heap.size ≤ w7.heap.size:=Nat.le_trans HBf.out.size HB7.out.size
       have hnc:∀ j u,([.int .u8 yk,.int .i64 yn,.string yt,.slice ya yl yc,.slice yb ym ye]:List Value)[j]? = some u → (w7.alloc (.cells #[.int .u8 yk,.int .i64 yn,.string yt,.slice ya yl yc,.slice yb ym ye] 31)).cell? ((⟨w7.heap.size,0,none⟩:Addr).add j) = some u:=fun j u hj => by
        have hadd:(⟨w7.heap.size,0,none⟩:Addr).add j = ⟨w7.heap.size,j,none⟩:=by unfold Addr.add; split <;> simp_all
        rw [hadd,cell_al_eq _ _ _ _ _ rfl]
        simpa using hj
       have hone:∀ u ∈ ([.int .u8 yk,.int .i64 yn,.string yt,.slice ya yl yc,.slice yb ym ye]:List Value),u.oneCell' = true:=fun u hu => by
        simp only [List.mem_cons,List.not_mem_nil,or_false] at hu
        rcases hu with rfl | rfl | rfl | rfl | rfl <;> rfl
       have HNC:=Lib.hid hnc
       have HONE:=Lib.hid hone
       have HM1:Hid (f + 1 ≤ maxLen):=by show _ ≤ _; unfold maxLen; omega
       have HM2:Hid ((f + 1) * 80 ≤ 140737488355328):=by show _ ≤ _; omega
       have HM3:Hid (w4.heap.size ≤ (w7.alloc (.cells #[.int .u8 yk,.int .i64 yn,.string yt,.slice ya yl yc,.slice yb ym ye] 31)).heap.size):=by show _ ≤ _; rw [size_al]; omega
       have HO7:=Lib.hid (World.ownsRow.alloc hO7 (.cells #[.int .u8 yk,.int .i64 yn,.string yt,.slice ya yl yc,.slice yb ym ye] 31))
       rw [HW7.out] at HNC HM3 HO7
       rw [size_al] at HNC
       clear hb6 hb7 hw7 hv6 hnc hone hO7 x0 x1 x2 x3 xf p0 p1 p2 p3 HVO
       go_wp2_with (at_builtin; refine wpList_append_own_at _ rfl _ _ 29 rfl w4.heap.size 31 i0 (.agg #[.int .u8 0,.int .i64 0,.string ⟨#[]⟩,.slice none 0 0,.slice none 0 0]) 5 80 Tryz.underlying29 HI.out HZ0.out HZ1.out HZ2.out rfl (by decide) _ _ _ rfl HO7.out ⟨_,0,none⟩ 1 1 [.int .u8 yk,.int .i64 yn,.string yt,.slice ya yl yc,.slice yb ym ye] rfl rfl HNC.out HONE.out HM1.out HM2.out HM3.out ?_)
       intro v' w9 hown9 hgrow9 _ hat9
       obtain ⟨g9,p9,rfl,hg9,hg9'⟩:=World.ownsRow.form hown9 (by omega)
       rw [← HW7.out] at hgrow9
       have hI9:Hid (ItemsOwn w9 w4.heap.size (.slice (some ⟨g9,0,none⟩) (f + 1) p9) (ys ++ [(⟨yk,yn,yt,ya,yl,yc,yb,ym,ye⟩,mapgJ x)])):=by
        refine ItemsOwn.snoc HIr.out HNV.out HBf.out.size HB7.out.size (hat9.imp id (fun e => ⟨_,e,by first | omega | (rw [size_al]; omega) | (simp only [size_al]; omega)⟩)) (by rw [hys]; exact hown9) (fun k hk _ hne => (hgrow9.block k (by rw [size_al]; omega) (fun e => hne e.symm)).trans ((bel_alloc (Below.refl _ _) _).block k hk)) (fun k hk _ => HB7.out.block k hk)
       have hB9:Hid (Below w4.heap.size w4 w9):=(bel_alloc (below_more HBf.out HB7.out) _).grown hgrow9 (by rw [size_al]; omega) (fun k hk => (World.ownsRow.lt HIr.out.1 k hk).1)
       have hX9:Hid ((ys ++ [((⟨yk,yn,yt,ya,yl,yc,yb,ym,ye⟩:VC),mapgJ x)]).map Prod.snd = (ms.take (f + 1)).map mapgJ):=by
        show _ = _
        rw [List.map_append,HYS.out,List.take_add_one,HX.out]
        simp
       clear hown9 hgrow9 hat9 HO7 HNC HONE HM1 HM2 HM3 v0 v1 v2 v3 v4 vf HIr HX7
       go_wp2_with fail
       exact ⟨⟨f + 1,_,some ⟨g9,0,none⟩,p9,by omega,by go_num,rfl,by rw [List.length_append,hys]; rfl,hX9,hI9,hB9⟩,by simp [intOf]; omega⟩
      ·obtain rfl:f = n2:=by omega
       have i1'':¬ (f:Int) < (f:Int):=by omega
       have hyv:ys.map Prod.snd = ms.map mapgJ:=by
        have:=HYS.out
        rwa [List.take_of_length_le (by rw [HN2.out]; exact Nat.le_refl _)] at this
       have hitm:ItemsAt (pureW wr) (.slice va f vc) (ms.map mapgJ):=by
        have h1:=HIr.out.out (by omega)
        rw [hyv] at h1
        exact h1.imp fun p u hu => by
         obtain ⟨-,q2,q3⟩:=(hidden_cell _ wr p u).1 hu
         exact (hidden_cell _ wr p u).2 ⟨rfl,q2,q3⟩
       have HLO:=Lib.hid (fun Y (hb:Below wr.heap.size wr Y) => listOf_any (ms.map mapgJ) (.slice va f vc) Y (hitm.imp (pure_keep hb)) (by rw [List.length_map,HN2.out]; omega) (fun y hy => by
        obtain ⟨x,hx,rfl⟩:=List.mem_map.1 hy
        have:=(HBD.out.2 x hx).2.2.2.2
        omega))
       have HBr:=Lib.hid (below_more (below_more HB1.out HB4.out) HBf.out)
       have HRb:=Lib.hid (BlkAt.keep HK2.out HBf.out)
       have HRv:=Lib.hid (HV2.out.imp (pure_keep HBf.out))
       have HRes:=Lib.hid (BlkAt.keep HL1.out (below_more HB4.out HBf.out))
       obtain ⟨r0,r1,r2,r3,r4,rf⟩:=b5 HRb.out
       have hsr:w.heap.size + 2 ≤ wr.heap.size:=Nat.le_trans hs4 HBf.out.size
       have HOB:=Lib.hid (fun p q b c Y hp hr hc => objectOf_chart M p q b c Y HMB.out hp hr hc)
       rw [HMS.out,HRS.out] at HOB
       unfold chartX at HOB
       rw [HMS.out,HRS.out] at HOB
       clear hyv hitm HIr HYS
       go_wp2_with fail
       refine wp_region_any (by kernel_rfl) ?_
       refine wpAny_puts [(0,some 65),(1,some 66),(2,some 67),(3,some 68),(4,some 69),(5,some 70),(6,some 71),(7,some 72),(8,some 73)] 9 [10] (by kernel_rfl) (by kernel_rfl) (of_decide_eq_true (by kernel_rfl)) (fun w' => Below wr.heap.size wr w') (cvbD (w.heap.size + 2) rbk (.slice va f vc) ⟨rk,rn,rt,ra,rl,rc,rb,rm,re⟩ (listJ (ms.map mapgJ)) (reposJ rs) (chartJ M)) cvbD_keep (bel_drew (Below.refl _ _)) ?_ ?_
       ·
        refine PutSteps.at rfl (fun vs Y hG hdep K hK => ?_) ?_
        ·simp only [putsOf,List.foldl_cons,List.foldl_nil,Act.put,List.setIfInBounds_toArray,List.set_cons_zero,List.set_cons_succ] at hK ⊢
         go_simp
         exact hK.out (.slice va f vc) _ _ rfl hG (Below.refl _ _) rfl
        refine PutSteps.at rfl (fun vs Y hG hdep K hK => ?_) ?_
        ·have e0:vs 0 = .slice va f vc:=hdep 0 rfl (by kernel_rfl)
         simp only [putsOf,List.foldl_cons,List.foldl_nil,Act.put,List.setIfInBounds_toArray,List.set_cons_zero,List.set_cons_succ] at hK ⊢
         rw [e0] at hK ⊢
         go_simp
         refine (HLO.out _ hG).mono ?_
         rintro e w4' ⟨⟨yk,yn,yt,ya,yl,yc,yb,ym,ye⟩,rfl,hb4,hv4⟩
         exact hK.out (.agg #[.int .u8 yk,.int .i64 yn,.string yt,.slice ya yl yc,.slice yb ym ye]) _ _ rfl (below_more hG hb4) hb4 ⟨⟨yk,yn,yt,ya,yl,yc,yb,ym,ye⟩,rfl,valOf_pure hv4 (Below.refl _ _)⟩
        refine PutSteps.at rfl (fun vs Y hG hdep K hK => ?_) ?_
        ·obtain ⟨⟨yk,yn,yt,ya,yl,yc,yb,ym,ye⟩,e0,hv⟩:=show ∃ y:VC,vs 1 = y.val ∧ ValAt (pureW Y) (listJ (ms.map mapgJ)) y.val from hdep 1 rfl (by kernel_rfl)
         simp only [VC.val] at e0
         simp only [putsOf,List.foldl_cons,List.foldl_nil,Act.put,List.setIfInBounds_toArray,List.set_cons_zero,List.set_cons_succ] at hK ⊢
         rw [e0] at hK ⊢
         go_simp
         exact hK.out (.agg #[.string tMapping,.int .u8 yk,.int .i64 yn,.string yt,.slice ya yl yc,.slice yb ym ye]) _ _ rfl hG (Below.refl _ _) ⟨⟨yk,yn,yt,ya,yl,yc,yb,ym,ye⟩,rfl,hv⟩
        refine PutSteps.at rfl (fun vs Y hG hdep K hK => ?_) ?_
        ·have y0:=cell_keep hG r0
         have y1:=cell_keep hG r1
         have y2:=cell_keep hG r2
         have y3:=cell_keep hG r3
         have y4:=cell_keep hG r4
         simp only [putsOf,List.foldl_cons,List.foldl_nil,Act.put,List.setIfInBounds_toArray,List.set_cons_zero,List.set_cons_succ] at hK ⊢
         go_simp
         exact hK.out (.agg #[.int .u8 rk,.int .i64 rn,.string rt,.slice ra rl rc,.slice rb rm re]) _ _ rfl hG (Below.refl _ _) rfl
        refine PutSteps.at rfl (fun vs Y hG hdep K hK => ?_) ?_
        ·have e0:vs 3 = .agg #[.int .u8 rk,.int .i64 rn,.string rt,.slice ra rl rc,.slice rb rm re]:=hdep 3 rfl (by kernel_rfl)
         simp only [putsOf,List.foldl_cons,List.foldl_nil,Act.put,List.setIfInBounds_toArray,List.set_cons_zero,List.set_cons_succ] at hK ⊢
         rw [e0] at hK ⊢
         go_simp
         exact hK.out (.agg #[.string tRepos,.int .u8 rk,.int .i64 rn,.string rt,.slice ra rl rc,.slice rb rm re]) _ _ rfl hG (Below.refl _ _) rfl
        refine PutSteps.at rfl (fun vs Y hG hdep K hK => ?_) ?_
        ·obtain ⟨⟨yk,yn,yt,ya,yl,yc,yb,ym,ye⟩,e0,hv⟩:=show ∃ y:VC,vs 2 = .agg #[.string tMapping,.int .u8 y.k,.int .i64 y.n,.string y.t,.slice y.a y.l y.c,.slice y.b y.m y.e] ∧ ValAt (pureW Y) (listJ (ms.map mapgJ)) y.val from hdep 2 rfl (by kernel_rfl)
         have e1:vs 4 = .agg #[.string tRepos,.int .u8 rk,.int .i64 rn,.string rt,.slice ra rl rc,.slice rb rm re]:=hdep 4 rfl (by kernel_rfl)
         simp only at e0
         simp only [putsOf,List.foldl_cons,List.foldl_nil,Act.put,List.setIfInBounds_toArray,List.set_cons_zero,List.set_cons_succ] at hK ⊢
         rw [e0,e1] at hK ⊢
         go_simp
         exact hK.out (.slice (some ⟨Y.heap.size,0,none⟩) 2 2) _ _ rfl (bel_alloc hG _) (bel_alloc (Below.refl _ _) _) ⟨Y.heap.size,⟨yk,yn,yt,ya,yl,yc,yb,ym,ye⟩,rfl,hv.imp (pure_keep (bel_alloc (Below.refl _ _) _)),blkAt_newC _ _ _⟩
        refine PutSteps.at rfl (fun vs Y hG hdep K hK => ?_) ?_
        ·obtain ⟨b,y,e0,hv,hb⟩:=show ∃ (b:Nat) (y:VC),vs 5 = .slice (some ⟨b,0,none⟩) 2 2 ∧ ValAt (pureW Y) (listJ (ms.map mapgJ)) y.val ∧ BlkAt Y b 61 #[.string tMapping,.int .u8 y.k,.int .i64 y.n,.string y.t,.slice y.a y.l y.c,.slice y.b y.m y.e,.string tRepos,.int .u8 rk,.int .i64 rn,.string rt,.slice ra rl rc,.slice rb rm re] from hdep 5 rfl (by kernel_rfl)
         simp only [putsOf,List.foldl_cons,List.foldl_nil,Act.put,List.setIfInBounds_toArray,List.set_cons_zero,List.set_cons_succ] at hK ⊢
         rw [e0] at hK ⊢
         go_simp
         refine (HOB.out y ⟨rk,rn,rt,ra,rl,rc,rb,rm,re⟩ b 2 _ hv (HRv.out.imp (pure_keep hG)) (fun j u hj => by rw [BlkAt.cell hb j]; simpa [xmCells,XM.cells] using hj)).mono ?_
         rintro e w4' ⟨⟨qk,qn,qt,qa,ql,qc,qb,qm,qe⟩,rfl,hb4,hv4⟩
         have hsY:=hG.size
         exact hK.out (.tuple #[.agg #[.int .u8 qk,.int .i64 qn,.string qt,.slice qa ql qc,.slice qb qm qe],.int .i64 0]) _ _ rfl (below_more hG hb4) hb4 ⟨⟨qk,qn,qt,qa,ql,qc,qb,qm,qe⟩,rfl,NewV.low hv4 (by omega)⟩
        refine PutSteps.at rfl (fun vs Y hG hdep K hK => ?_) ?_
        ·simp only [putsOf,List.foldl_cons,List.foldl_nil,Act.put,List.setIfInBounds_toArray,List.set_cons_zero,List.set_cons_succ] at hK ⊢
         go_simp
         obtain ⟨y,e0,hv⟩:=show ∃ y:VC,vs 6 = .tuple #[y.val,.int .i64 0] ∧ NewV (w.heap.size + 2) Y (chartJ M) y.val from hdep 6 rfl (by kernel_rfl)
         rw [e0] at hK ⊢
         go_simp
         exact hK.out y.val _ _ rfl hG (Below.refl _ _) ⟨y,rfl,hv⟩
        refine PutSteps.at rfl (fun vs Y hG hdep K hK => ?_) PutSteps.nil
        ·simp only [putsOf,List.foldl_cons,List.foldl_nil,Act.put,List.setIfInBounds_toArray,List.set_cons_zero,List.set_cons_succ] at hK ⊢
         go_simp
         obtain ⟨y,e0,-⟩:=show ∃ y:VC,vs 6 = .tuple #[y.val,.int .i64 0] ∧ NewV (w.heap.size + 2) Y (chartJ M) y.val from hdep 6 rfl (by kernel_rfl)
         rw [e0] at hK ⊢
         go_simp
         exact hK.out (.int .i64 0) _ _ rfl hG (Below.refl _ _) rfl
       ·intro vs Y hG hdep
        obtain ⟨⟨yk,yn,yt,ya,yl,yc,yb,ym,ye⟩,e0,hv⟩:=show ∃ y:VC,vs 7 = y.val ∧ NewV (w.heap.size + 2) Y (chartJ M) y.val from hdep 7 rfl
        have e1:vs 8 = .int .i64 0:=hdep 8 rfl
        simp only [VC.val] at e0
        simp only [putsOf,List.foldl_cons,List.foldl_nil,Act.put,List.setIfInBounds_toArray,List.set_cons_zero,List.set_cons_succ]
        simp only [List.filterMap_cons,List.filterMap_nil,nthO]
        rw [e0,e1]
        have hR:=BlkAt.keep HRes.out hG
        obtain ⟨z0,z1,z2,z3,z4,zf⟩:=b5 hR
        have hbY:=below_more HBr.out hG
        have HNV:Hid (NewV w.heap.size (((((Y.setCell ⟨w.heap.size + 1,0,none⟩ (.int .u8 yk)).setCell ⟨w.heap.size + 1,1,none⟩ (.int .i64 yn)).setCell ⟨w.heap.size + 1,2,none⟩ (.string yt)).setCell ⟨w.heap.size + 1,3,none⟩ (.slice ya yl yc)).setCell ⟨w.heap.size + 1,4,none⟩ (.slice yb ym ye)) (chartJ M) (.agg #[.int .u8 yk,.int .i64 yn,.string yt,.slice ya yl yc,.slice yb ym ye])) :=
         ValAt.carry hv fun k hk hP => ⟨offB_none.2 (by have:=offB_none.1 hP; omega),heap_set5 _ _ _ _ _ _ _ _ (by have:=offB_none.1 hP; omega)⟩
        have HR5:=Lib.hid (blk_set5 hR (.int .u8 yk) (.int .i64 yn) (.string yt) (.slice ya yl yc) (.slice yb ym ye))
        have HB5:=Lib.hid (bset5 hbY (Nat.le_succ _) (.int .u8 yk) (.int .i64 yn) (.string yt) (.slice ya yl yc) (.slice yb ym ye))
        clear hdep hG hv hR hbY e0 e1
        refine wpList_plain rfl fun K hK => ?_
        go_simp
        refine hK _ _ ?_
        refine wpList_plain rfl fun K hK => ?_
        go_simp
        refine hK _ _ ?_
        refine wpList_nil ?_
        clear z0 z1 z2 z3 z4 zf
        generalize ((((Y.setCell ⟨w.heap.size + 1,0,none⟩ (.int .u8 yk)).setCell ⟨w.heap.size + 1,1,none⟩ (.int .i64 yn)).setCell ⟨w.heap.size + 1,2,none⟩ (.string yt)).setCell ⟨w.heap.size + 1,3,none⟩ (.slice ya yl yc)).setCell ⟨w.heap.size + 1,4,none⟩ (.slice yb ym ye) = wF at HNV HR5 HB5 ⊢
        obtain ⟨q0,q1,q2,q3,q4,-⟩:=b5 HR5.out
        go_wp2_with fail
        exact bodyPost_ret (v:=.tuple #[.agg #[.int .u8 yk,.int .i64 yn,.string yt,.slice ya yl yc,.slice yb ym ye],.int .i64 0]) (by simp [results,Tryz.results7,go_sem,q0,q1,q2,q3,q4]) rfl ⟨HB5.out,by first | exact ⟨⟨yk,yn,yt,ya,yl,yc,yb,ym,ye⟩,rfl,HNV.out⟩ | exact Or.inr ⟨rfl,⟨yk,yn,yt,ya,yl,yc,yb,ym,ye⟩,rfl,HNV.out⟩⟩
end
end Go.Proofs.YtkphgjkflhjfjaaGreatDoor
