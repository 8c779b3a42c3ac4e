/-
 legateref08.Same: are two values the same in all parts?
-/
import Derived.Test.YtaloajeldimpnaaGreatDoorSignP
import Derived.Test.YtaloajeldimpnaaGreatDoorValA
import Derived.Deep.RegionHeld3
import Derived.Deep.QuietTactic
import Derived.BigQuiet
namespace Go.Proofs.YtaloajeldimpnaaGreatDoor
set_option maxRecDepth 100000
open Go.RowKit
mutual
def sameV:JV → JV → Bool
 | .mk k n t names items,W => decide (k = W.k) && decide (n = W.n) && decide (t = W.t) && decide (names = W.names) && sameL items W.items
def sameL:List JV → List JV → Bool
 | [],[] => true
 | x :: r,y :: s => sameV x y && sameL r s
 | _,_ => false
end
mutual
theorem sameV_iff:∀ (V W:JV),sameV V W = true ↔ V = W
 | .mk k n t names items,W => by
   cases W with
   | mk k' n' t' names' items' =>
     rw [sameV]
     simp only [Bool.and_eq_true,decide_eq_true_eq,sameL_iff items _,and_assoc,JV.mk.injEq]
     rfl
theorem sameL_iff:∀ (xs ys:List JV),sameL xs ys = true ↔ xs = ys
 | [],[] => by simp [sameL]
 | [],y :: s => by simp [sameL]
 | x :: r,[] => by simp [sameL]
 | x :: r,y :: s => by
   rw [sameL,Bool.and_eq_true,sameV_iff x y,sameL_iff r s]; simp
end
theorem sameV_self (V:JV):sameV V V = true:=(sameV_iff V V).2 rfl
theorem sameL_split {xs ys:List JV} {j:Nat} {x y:JV} (hx:xs[j]? = some x) (hy:ys[j]? = some y) (h:xs.take j = ys.take j) (hxy:x = y):xs.take (j + 1) = ys.take (j + 1):=by
 rw [List.take_add_one,List.take_add_one,hx,hy,h,hxy]
set_option maxHeartbeats 2000000 in
theorem Same_no (V W:JV) (v u:Value) (w:World) (h:ValAt w V v) (h2:ValAt w W u)
 (hB:Hid (¬ (V.k = W.k ∧ V.n = W.n ∧ V.t.toList = W.t.toList ∧ V.names.length = W.names.length ∧ V.items.length = W.items.length))) :
 Calls Tryz.prog 14 #[v,u] w fun e w' => e = .returned (.bool false) ∧ Below w.heap.size w w':=by
 obtain ⟨vn,vi,rfl,-,-,-,-,-,hns,his⟩:=valAt_iff.1 h
 obtain ⟨ai,icap,rfl,-,-⟩:=his.parts
 obtain ⟨an,ncap,rfl,-,-,-⟩:=hns.parts
 obtain ⟨un,ui,rfl,-,-,-,-,-,hms,hjs⟩:=valAt_iff.1 h2
 obtain ⟨bi,jcap,rfl,-,-⟩:=hjs.parts
 obtain ⟨bn,mcap,rfl,-,-,-⟩:=hms.parts
 clear h h2 hns his hms hjs
 obtain ⟨k,n,t,names,items⟩:=V
 obtain ⟨k',n',t',names',items'⟩:=W
 simp only [JV.k,JV.n,JV.t,JV.names,JV.items] at hB ⊢
 obtain ⟨l1,e1⟩:∃ x,names.length = x:=⟨_,rfl⟩
 obtain ⟨l2,e2⟩:∃ x,items.length = x:=⟨_,rfl⟩
 obtain ⟨l3,e3⟩:∃ x,names'.length = x:=⟨_,rfl⟩
 obtain ⟨l4,e4⟩:∃ x,items'.length = x:=⟨_,rfl⟩
 rw [e1,e2,e3,e4] at hB
 rw [e1,e2,e3,e4]
 clear e1 e2 e3 e4
 have hb:Below w.heap.size w ((w.alloc (.cells #[.int .u8 k,.int .i64 n,.string t,.slice an l1 ncap,.slice ai l2 icap] 29)).alloc (.cells #[.int .u8 k',.int .i64 n',.string t',.slice bn l3 mcap,.slice bi l4 jcap] 29)):=bel_alloc (bel_alloc (Below.refl _ _) _) _
 by_cases b1:k = k'
 ·subst b1
  by_cases b2:n = n'
  ·subst b2
   by_cases b3:t.toList = t'.toList
   ·obtain rfl:t = t':=bytes_ext (by rw [← toList_data,← toList_data,b3])
    clear b3
    by_cases b4:l1 = l3
    ·subst b4
     have b5:¬ l2 = l4:=fun e => hB.out ⟨rfl,rfl,rfl,rfl,e⟩
     have c5:((l2:Int) != (l4:Int)) = true:=by simp; omega
     clear hB
     go_enter Tryz.func14,Tryz.ntmps14
     go_wp2_with fail
     go_ret
     exact ⟨rfl,hb⟩
    ·have c4:¬ ((l1:Int) = (l3:Int)):=by omega
     clear hB
     go_enter Tryz.func14,Tryz.ntmps14
     go_wp2_with fail
     go_ret
     exact ⟨rfl,hb⟩
   ·clear hB
    go_enter Tryz.func14,Tryz.ntmps14
    go_wp2_with fail
    go_ret
    exact ⟨rfl,hb⟩
  ·clear hB
   go_enter Tryz.func14,Tryz.ntmps14
   go_wp2_with fail
   go_ret
   exact ⟨rfl,hb⟩
 ·clear hB
  go_enter Tryz.func14,Tryz.ntmps14
  go_wp2_with fail
  go_ret
  exact ⟨rfl,hb⟩
set_option maxHeartbeats 4000000 in
theorem Same_yes (k n:Int) (t:ByteArray) (names names':List ByteArray) (items items':List JV) (v u:Value) (w:World) (h:ValAt w (.mk k n t names items) v) (h2:ValAt w (.mk k n t names' items') u)
 (hnl:names'.length = names.length) (hil:items'.length = items.length)
 (ih:∀ (x y:JV) (a b:Value) (wr:World),x ∈ items → ValAt wr x a → ValAt wr y b → Calls Tryz.prog 14 #[a,b] wr fun e w' => e = .returned (.bool (sameV x y)) ∧ Below wr.heap.size wr w')
 (r:Bool) (hr:Hid (sameV (.mk k n t names items) (.mk k n t names' items') = r)) :
 Calls Tryz.prog 14 #[v,u] w fun e w' => e = .returned (.bool r) ∧ Below w.heap.size w w':=by
 obtain ⟨vn,vi,rfl,-,-,-,-,-,hns,his⟩:=valAt_iff.1 h
 obtain ⟨un,ui,rfl,-,-,-,-,-,hms,hjs⟩:=valAt_iff.1 h2
 simp only [JV.k,JV.n,JV.t,JV.names,JV.items] at hns his hms hjs ⊢
 have HIs:=Lib.hid his
 have HJs:=Lib.hid hjs
 obtain ⟨ai,icap,rfl,hI1,-⟩:=his.parts
 obtain ⟨an,ncap,rfl,hN1,-,hnc⟩:=hns.parts
 obtain ⟨bi,jcap,rfl,-,-⟩:=hjs.parts
 obtain ⟨bn,mcap,rfl,-,-,hmc⟩:=hms.parts
 rw [hil] at HJs
 rw [hnl,hil]
 clear h h2 hns his hms hjs
 have HNC:=Lib.hid hnc
 have HMC:=Lib.hid hmc
 have HIH:=Lib.hid ih
 clear hnc hmc ih
 obtain ⟨nl,e1⟩:∃ x,names.length = x:=⟨_,rfl⟩
 obtain ⟨il,e2⟩:∃ x,items.length = x:=⟨_,rfl⟩
 rw [e1] at hnl hN1
 rw [e2] at hil hI1 HIs HJs
 rw [e1,e2]
 have HE1:=Lib.hid e1
 have HE2:=Lib.hid e2
 have HNL:=Lib.hid hnl
 have HIL:=Lib.hid hil
 clear e1 e2 hnl hil
 obtain ⟨w2,hw2⟩:∃ x,x = ((w.alloc (.cells #[.int .u8 k,.int .i64 n,.string t,.slice an nl ncap,.slice ai il icap] 29)).alloc (.cells #[.int .u8 k,.int .i64 n,.string t,.slice bn nl mcap,.slice bi il jcap] 29)):=⟨_,rfl⟩
 have hB2:Below w.heap.size w w2:=by rw [hw2]; exact bel_alloc (bel_alloc (Below.refl _ _) _) _
 have s2:w2.heap.size = w.heap.size + 2:=by rw [hw2,size_al,size_al]
 have a3:w2.cell? ⟨w.heap.size,3,none⟩ = some (.slice an nl ncap):=by rw [hw2,cell_al_lt _ _ _ _ (by rw [size_al]; omega),cell_al_eq _ _ _ _ _ rfl]; rfl
 have a4:w2.cell? ⟨w.heap.size,4,none⟩ = some (.slice ai il icap):=by rw [hw2,cell_al_lt _ _ _ _ (by rw [size_al]; omega),cell_al_eq _ _ _ _ _ rfl]; rfl
 have b3:w2.cell? ⟨w.heap.size + 1,3,none⟩ = some (.slice bn nl mcap):=by rw [hw2,cell_al_eq _ _ _ _ _ (by rw [size_al])]; rfl
 have b4:w2.cell? ⟨w.heap.size + 1,4,none⟩ = some (.slice bi il jcap):=by rw [hw2,cell_al_eq _ _ _ _ _ (by rw [size_al])]; rfl
 have HS2:=Lib.hid s2
 have HW:=Lib.hid hw2
 clear hw2 s2
 go_enter Tryz.func14,Tryz.ntmps14
 go_wp2_with fail
 rw [← HW.out]
 go_loopw [5] (fun i wr => ∃ j:Nat,j ≤ nl ∧ i = .int .i64 j ∧ Hid (names.take j = names'.take j) ∧ ∃ nq,wr = w2.drewN nq) (fun i _ => nl - (intOf i).toNat)
 case atStart => exact ⟨0,by omega,rfl,by simp [Hid],0,rfl⟩
 case round =>
  obtain ⟨j,hj,rfl,HT,nq,rfl⟩:=hrel
  by_cases hjl:j < nl
  ·obtain ⟨p,hp⟩:∃ x,names[j]? = some x:=⟨_,List.getElem?_eq_getElem (by rw [HE1.out]; exact hjl)⟩
   obtain ⟨s,hs⟩:∃ x,names'[j]? = some x:=⟨_,List.getElem?_eq_getElem (by rw [HNL.out]; exact hjl)⟩
   obtain ⟨ab,ao,rfl,hcp⟩:=HNC.out j p hp
   obtain ⟨bb,bo,rfl,hcs⟩:=HMC.out j s hs
   have hcp2:=cell_keep hB2 hcp
   have hcs2:=cell_keep hB2 hcs
   have hj0:(0:Int) ≤ (j:Int):=by omega
   have hj1:(j:Int) < (nl:Int):=by omega
   have Hp:=Lib.hid hp
   have Hs:=Lib.hid hs
   clear hp hs hcp hcs
   by_cases hps:p.toList = s.toList
   ·have hpe:p = s:=bytes_ext (by rw [← toList_data,← toList_data,hps])
    have HPE:=Lib.hid hpe
    have hpb:(p.toList == s.toList) = true:=by simp [hps]
    clear hpe hps
    go_wp2_with fail
    go_quiet (fail)
    go_wp2_with fail
    refine ⟨⟨j + 1,by omega,by go_num,?_,_,rfl⟩,by simp [intOf]; omega⟩
    show names.take (j + 1) = names'.take (j + 1)
    rw [List.take_add_one,List.take_add_one,Hp.out,Hs.out,HT.out,HPE.out]
   ·have hno:sameV (.mk k n t names items) (.mk k n t names' items') = false:=by
     cases hh:sameV (.mk k n t names items) (.mk k n t names' items') with
     | false => rfl
     | true =>
       have e:=(sameV_iff _ _).1 hh
       simp only [JV.mk.injEq] at e
       have:=Hp.out
       rw [e.2.2.2.1,Hs.out] at this
       simp only [Option.some.injEq] at this
       exact absurd (by rw [this]) hps
    have hpb:(p.toList == s.toList) = false:=by simp [hps]
    obtain rfl:r = false:=by rw [← hr.out,hno]
    clear hno hps
    go_wp2_with fail
    go_quiet (fail)
    go_wp2_with fail
    go_ret
    exact ⟨rfl,bel_drewN (bel_drewN hB2 _) _⟩
  ·have hnames:names = names':=by
    have:=HT.out
    rwa [List.take_of_length_le (by rw [HE1.out]; omega),List.take_of_length_le (by rw [HNL.out]; omega)] at this
   have HNE:=Lib.hid hnames
   clear hnames HT HNC HMC
   go_wp2_with fail
   go_loopw [6] (fun i wr => ∃ j:Nat,j ≤ il ∧ i = .int .i64 j ∧ Hid (items.take j = items'.take j) ∧ Below w2.heap.size w2 wr) (fun i _ => il - (intOf i).toNat)
   case atStart => exact ⟨0,by omega,rfl,by simp [Hid],bel_drewN (Below.refl _ _) _⟩
   case round =>
    obtain ⟨i,hi,rfl,HT,hbr⟩:=hrel
    have c3:=cell_keep hbr a4
    have c4:=cell_keep hbr b4
    by_cases hil:i < il
    ·obtain ⟨x,hx⟩:∃ x,items[i]? = some x:=⟨_,List.getElem?_eq_getElem (by rw [HE2.out]; exact hil)⟩
     obtain ⟨y,hy⟩:∃ x,items'[i]? = some x:=⟨_,List.getElem?_eq_getElem (by rw [HIL.out]; exact hil)⟩
     have hIr:=HIs.out.keep (below_more hB2 hbr)
     have hJr:=HJs.out.keep (below_more hB2 hbr)
     obtain ⟨a',cap',e',-,hpart⟩:=hIr.parts
     simp only [Value.slice.injEq] at e'
     obtain ⟨rfl,-,rfl⟩:=e'
     obtain ⟨xb,xo,xn,xi,rfl,x0,x1,x2,x3,x4,q⟩:=hpart i x hx
     obtain ⟨a'',cap'',e'',-,hpart'⟩:=hJr.parts
     simp only [Value.slice.injEq] at e''
     obtain ⟨rfl,-,rfl⟩:=e''
     obtain ⟨yb,yo,yn,yi,rfl,y0,y1,y2,y3,y4,q'⟩:=hpart' i y hy
     have hvx:=valAt_iff.2 ⟨xn,xi,rfl,q⟩
     have hvy:=valAt_iff.2 ⟨yn,yi,rfl,q'⟩
     obtain ⟨-,-,-,-,-,q1,q2⟩:=q
     obtain ⟨-,-,-,-,-,q1',q2'⟩:=q'
     obtain ⟨xi1,xi2,rfl,-,-⟩:=q2.parts
     obtain ⟨xn1,xn2,rfl,-,-,-⟩:=q1.parts
     obtain ⟨yi1,yi2,rfl,-,-⟩:=q2'.parts
     obtain ⟨yn1,yn2,rfl,-,-,-⟩:=q1'.parts
     have hi0:(0:Int) ≤ (i:Int):=by omega
     have hi1:(i:Int) < (il:Int):=by omega
     have Hx:=Lib.hid hx
     have Hy:=Lib.hid hy
     have Hbr:=Lib.hid hbr
     have hvx:=Lib.hid hvx
     have hvy:=Lib.hid hvy
     have hcall:=fun (w':World) (hb':Below wr.heap.size wr w') => HIH.out x y _ _ w' (List.mem_of_getElem? hx) (hvx.out.keep hb') (hvy.out.keep hb')
     have hbR:Below wr.heap.size wr wr:=Below.refl _ _
     clear hx hy hpart hpart' q1 q2 q1' q2' hIr hJr hbr
     obtain ⟨z,hz⟩:∃ z,sameV x y = z:=⟨_,rfl⟩
     have HC:=Lib.hid hcall
     have HZ:=Lib.hid hz
     clear hcall hz
     go_wp2_with fail
     go_region_held3 (fun w' => Below wr.heap.size wr w' ∧ w'.cell? ⟨w.heap.size,4,none⟩ = some (.slice (some ⟨xb,xo,none⟩) il icap) ∧ w'.cell? ⟨w.heap.size + 1,4,none⟩ = some (.slice (some ⟨yb,yo,none⟩) il jcap) ∧
      w'.cell? ⟨xb,xo + i * 5,none⟩ = some (.int .u8 x.k) ∧ w'.cell? ⟨xb,xo + i * 5 + 1,none⟩ = some (.int .i64 x.n) ∧ w'.cell? ⟨xb,xo + i * 5 + 2,none⟩ = some (.string x.t) ∧ w'.cell? ⟨xb,xo + i * 5 + 3,none⟩ = some (.slice xn1 x.names.length xn2) ∧ w'.cell? ⟨xb,xo + i * 5 + 4,none⟩ = some (.slice xi1 x.items.length xi2) ∧
      w'.cell? ⟨yb,yo + i * 5,none⟩ = some (.int .u8 y.k) ∧ w'.cell? ⟨yb,yo + i * 5 + 1,none⟩ = some (.int .i64 y.n) ∧ w'.cell? ⟨yb,yo + i * 5 + 2,none⟩ = some (.string y.t) ∧ w'.cell? ⟨yb,yo + i * 5 + 3,none⟩ = some (.slice yn1 y.names.length yn2) ∧ w'.cell? ⟨yb,yo + i * 5 + 4,none⟩ = some (.slice yi1 y.items.length yi2))
      ((refine (fun h => ⟨h,cell_keep h c3,cell_keep h c4,cell_keep h x0,cell_keep h x1,cell_keep h x2,cell_keep h x3,cell_keep h x4,cell_keep h y0,cell_keep h y1,cell_keep h y2,cell_keep h y3,cell_keep h y4⟩:Below wr.heap.size wr _ → _) ?_; go_split_ands; (repeat (first | assumption | refine bel_drew ?_ | refine bel_alloc ?_ _ | refine below_more ?_ (by assumption)))))
      (first | (go_at_call 14; refine (HC.out _ (by (repeat (first | assumption | refine bel_drew ?_ | refine bel_alloc ?_ _ | refine below_more ?_ (by assumption))))).mono ?_; rintro e w4 ⟨rfl,hb4⟩; rw [HZ.out]))
     all_goals
      cases z with
      | true =>
        go_wp2_with fail
        refine ⟨⟨i + 1,by omega,by go_num,?_,below_more Hbr.out (by go_split_ands; assumption)⟩,by simp [intOf]; omega⟩
        exact sameL_split Hx.out Hy.out HT.out ((sameV_iff _ _).1 HZ.out)
      | false =>
        obtain rfl:r = false:=by
         rw [← hr.out]
         cases hh:sameV (.mk k n t names items) (.mk k n t names' items') with
         | false => rfl
         | true =>
           have e:=(sameV_iff _ _).1 hh
           simp only [JV.mk.injEq] at e
           have e2:=Hx.out
           rw [e.2.2.2.2,Hy.out] at e2
           simp only [Option.some.injEq] at e2
           have e3:=HZ.out
           rw [e2,sameV_self] at e3
           cases e3
        go_wp2_with fail
        go_ret
        exact ⟨rfl,below_more hB2 (below_more Hbr.out (by go_split_ands; assumption))⟩
    ·have hitems:items = items':=by
      have:=HT.out
      rwa [List.take_of_length_le (by rw [HE2.out]; omega),List.take_of_length_le (by rw [HIL.out]; omega)] at this
     obtain rfl:r = true:=by rw [← hr.out,sameV_iff,HNE.out,hitems]
     clear hitems
     go_wp2_with fail
     go_ret
     exact ⟨rfl,below_more hB2 hbr⟩
theorem Same_fuel (N:Nat):∀ (V W:JV) (v u:Value) (w:World),SizeOf.sizeOf V < N → ValAt w V v → ValAt w W u →
 Calls Tryz.prog 14 #[v,u] w fun e w' => e = .returned (.bool (sameV V W)) ∧ Below w.heap.size w w':=by
 induction N with
 | zero => intro V W v u w h; omega
 | succ N ih =>
   intro V W v u w hN h h2
   by_cases hc:V.k = W.k ∧ V.n = W.n ∧ V.t.toList = W.t.toList ∧ V.names.length = W.names.length ∧ V.items.length = W.items.length
   ·obtain ⟨k,n,t,names,items⟩:=V
    obtain ⟨k',n',t',names',items'⟩:=W
    simp only [JV.k,JV.n,JV.t,JV.names,JV.items] at hc
    obtain ⟨rfl,rfl,ht,hn,hi⟩:=hc
    obtain rfl:t = t':=bytes_ext (by rw [← toList_data,← toList_data,ht])
    refine Same_yes k n t names names' items items' v u w h h2 hn.symm hi.symm (fun x y a b wr hx ha hb => ih x y a b wr ?_ ha hb) _ rfl
    have:=JV.size_item (v:=.mk k n t names items) (x:=x) hx
    omega
   ·have hno:sameV V W = false:=by
     cases hh:sameV V W with
     | false => rfl
     | true =>
       have e:=(sameV_iff _ _).1 hh
       subst e
       exact absurd ⟨rfl,rfl,rfl,rfl,rfl⟩ hc
    rw [hno]
    exact Same_no V W v u w h h2 (Lib.hid hc)
theorem Same_any (V W:JV) (v u:Value) (w:World) (h:ValAt w V v) (h2:ValAt w W u) :
 Calls Tryz.prog 14 #[v,u] w fun e w' => e = .returned (.bool (sameV V W)) ∧ Below w.heap.size w w' :=
 Same_fuel _ V W v u w (Nat.lt_succ_self _) h h2
end Go.Proofs.YtaloajeldimpnaaGreatDoor
