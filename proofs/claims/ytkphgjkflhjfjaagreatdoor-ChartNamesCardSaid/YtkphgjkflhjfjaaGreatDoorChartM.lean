/-
 chart.May: whether a map may be.
-/
import Derived.Test.YtkphgjkflhjfjaaGreatDoorChartD
import Derived.StillTailTactics
namespace Go.Proofs.YtkphgjkflhjfjaaGreatDoor
set_option maxRecDepth 100000
open Go.RowKit
def okR (r:RepoP):Bool:=roleB r.1 && urlsB r.2
def repoTo (l:List RepoP) (k:Nat):Bool:=ascTo (namesR l) k && (l.take k).all okR
theorem namesR_get {l:List RepoP} {i:Nat} {x:RepoP} (h:l[i]? = some x):(namesR l).getD i ByteArray.empty = x.1:=by
 unfold namesR
 rw [List.getD_eq_getElem?_getD,List.getElem?_map,h]
 rfl
theorem repoTo_first {l:List RepoP} {x:RepoP} (h:l[0]? = some x):repoTo l 1 = okR x:=by
 have:l.take 1 = [x]:=by
  match l,h with
  | y :: r,h => simp at h; subst h; rfl
 unfold repoTo
 rw [this]
 simp [ascTo]
theorem repoTo_step {l:List RepoP} {k:Nat} {x y:RepoP} (hx:l[k]? = some x) (hy:l[k + 1]? = some y):repoTo l (k + 2) = (repoTo l (k + 1) && (Op.bytesLess x.1.toList y.1.toList && okR y)):=by
 unfold repoTo
 have h1:ascTo (namesR l) (k + 2) = (ascTo (namesR l) (k + 1) && Op.bytesLess x.1.toList y.1.toList):=by
  unfold ascTo
  rw [show k + 2 - 1 = k + 1 by omega,show k + 1 - 1 = k by omega,List.range_succ,List.all_append]
  simp only [List.all_cons,List.all_nil,Bool.and_true,lessAt]
  rw [namesR_get hx,namesR_get hy]
 have h2:(l.take (k + 2)).all okR = ((l.take (k + 1)).all okR && okR y):=by
  rw [List.take_add_one,hy,List.all_append]
  simp
 rw [h1,h2]
 cases ascTo (namesR l) (k + 1) <;> cases (l.take (k + 1)).all okR <;> cases Op.bytesLess x.1.toList y.1.toList <;> cases okR y <;> rfl
theorem repoTo_all {l:List RepoP} {n:Nat} (hn:l.length = n) (_h0:0 < n):repoTo l n = (ascB (namesR l) && l.all okR):=by
 unfold repoTo
 rw [List.take_of_length_le (by omega)]
 congr 1
 unfold ascTo ascB namesR
 rw [List.length_map,hn]
theorem repoTo_mono {l:List RepoP} {k:Nat} (hk:k ≤ l.length) (h:repoTo l k = false):(ascB (namesR l) && l.all okR) = false:=by
 rw [Bool.and_eq_false_iff]
 unfold repoTo at h
 rcases (Bool.and_eq_false_iff).1 h with h | h
 ·left
  unfold ascTo at h
  rw [ascB,List.all_eq_false]
  obtain ⟨i,hi,hx⟩:=List.all_eq_false.1 h
  refine ⟨i,List.mem_range.2 ?_,hx⟩
  have:=List.mem_range.1 hi
  unfold namesR
  rw [List.length_map]
  omega
 ·right
  obtain ⟨x,hx,h2⟩:=List.all_eq_false.1 h
  exact List.all_eq_false.2 ⟨x,List.mem_of_mem_take hx,h2⟩
def wrongs (M:MapP):Bool:=M.maps.all (fun x => decide (wrongV x (namesR M.repos) = 0))
theorem mayM_eq (M:MapP):mayM M = (decide (1 ≤ M.repos.length) && decide (M.repos.length ≤ 8) && decide (M.maps.length ≤ 16) && (ascB (namesR M.repos) && M.repos.all okR) && wrongs M):=by
 unfold mayM wrongs okR
 simp only [Bool.and_assoc]
attribute [local irreducible] wpStill wpList in
set_option maxHeartbeats 16000000 in
theorem cMay_any (M:MapP) (v:Value) (w:World) (h:MapAt w v M) :
 Calls Tryz.prog 10 #[v] w fun e w' => e = .returned (.bool (mayM M)) ∧ Below w.heap.size w w':=by
 obtain ⟨a1,c1,a2,c2,rfl,hr,hm⟩:=h.parts
 obtain ⟨_,_,e1,hl1,hc⟩:=hr.at
 obtain ⟨_,_,e2,hl2,hd⟩:=hm.at
 simp only [Value.slice.injEq,true_and] at e1 e2
 obtain ⟨rfl,rfl⟩:=e1
 obtain ⟨rfl,rfl⟩:=e2
 obtain ⟨r,hrr⟩:∃ r,mayM M = r:=⟨_,rfl⟩
 rw [hrr]
 rw [mayM_eq] at hrr
 obtain ⟨n,hn⟩:∃ n,M.repos.length = n:=⟨_,rfl⟩
 obtain ⟨m,hk⟩:∃ n,M.maps.length = n:=⟨_,rfl⟩
 rw [hn] at hr hl1 hrr ⊢
 rw [hk] at hl2 hrr ⊢
 obtain ⟨W,hW⟩:∃ W,W = w.alloc (.cells #[.slice a1 n c1,.slice a2 m c2] 25):=⟨_,rfl⟩
 have hBW:Below w.heap.size w W:=by rw [hW]; exact bel_alloc (Below.refl _ _) _
 have HA:Hid (BlkAt W w.heap.size 25 #[.slice a1 n c1,.slice a2 m c2]):=by rw [hW]; exact blkAt_newC w _ _
 have HW:=Lib.hid hW
 have HBW:=Lib.hid hBW
 have HC:=Lib.hid hc
 have HD:=Lib.hid hd
 have HN:=Lib.hid hn
 have HK:=Lib.hid hk
 have HQ:=Lib.hid hr
 obtain ⟨p0,p1,pf⟩:=b2c HA.out
 clear h hr hm hc hd hn hk hW hBW
 by_cases h1:n < 1
 ·obtain rfl:false = r:=by rw [← hrr,decide_eq_false (by omega)]; rfl
  have g1:decide ((n:Int) < 1) = true:=decide_eq_true (by omega)
  have g1':decide (n < 1) = true:=decide_eq_true h1
  clear hrr
  go_enter Tryz.func10,Tryz.ntmps10
  go_wp2_with fail
  rw [← HW.out]
  go_ret
  exact ⟨rfl,HBW.out⟩
 ·have g1:decide ((n:Int) < 1) = false:=decide_eq_false (by omega)
  have g1':decide (n < 1) = false:=decide_eq_false h1
  by_cases h2:8 < n
  ·obtain rfl:false = r:=by rw [← hrr,decide_eq_false (show ¬ n ≤ 8 by omega)]; simp
   have g2:decide ((8:Int) < (n:Int)) = true:=decide_eq_true (by omega)
   have g2':decide (8 < n) = true:=decide_eq_true h2
   clear hrr
   go_enter Tryz.func10,Tryz.ntmps10
   go_wp2_with fail
   rw [← HW.out]
   go_ret
   exact ⟨rfl,HBW.out⟩
  ·have g2:decide ((8:Int) < (n:Int)) = false:=decide_eq_false (by omega)
   have g2':decide (8 < n) = false:=decide_eq_false h2
   by_cases h3:16 < m
   ·obtain rfl:false = r:=by rw [← hrr,decide_eq_false (show ¬ m ≤ 16 by omega)]; simp
    have g3:decide ((16:Int) < (m:Int)) = true:=decide_eq_true (by omega)
    have g3':decide (16 < m) = true:=decide_eq_true h3
    clear hrr
    go_enter Tryz.func10,Tryz.ntmps10
    go_wp2_with fail
    rw [← HW.out]
    go_ret
    exact ⟨rfl,HBW.out⟩
   ·have g3:decide ((16:Int) < (m:Int)) = false:=decide_eq_false (by omega)
    have g3':decide (16 < m) = false:=decide_eq_false h3
    have hr2:((ascB (namesR M.repos) && M.repos.all okR) && wrongs M) = r:=by
     rw [← hrr,decide_eq_true (show 1 ≤ n by omega),decide_eq_true (show n ≤ 8 by omega),decide_eq_true (show m ≤ 16 by omega)]
     rfl
    have HR:=Lib.hid hr2
    clear hrr hr2
    go_enter Tryz.func10,Tryz.ntmps10
    go_wp2_with fail
    rw [← HW.out]
    go_loopw [26] (fun i wr => ∃ k:Nat,k ≤ n ∧ i = .int .i64 k ∧ Hid (repoTo M.repos k = true) ∧ Hid (Below W.heap.size W wr)) (fun i _ => n - (intOf i).toNat)
    case atStart => exact ⟨0,by omega,rfl,rfl,Below.refl _ _⟩
    case round =>
     obtain ⟨k,hk,rfl,HT,HB⟩:=hrel
     have hbw:=below_more HBW.out HB.out
     obtain ⟨q0,q1,qf⟩:=b2c (HA.out.keep HB.out)
     by_cases hlt:k < n
     ·obtain ⟨x,hx⟩:∃ x,M.repos[k]? = some x:=⟨_,List.getElem?_eq_getElem (by rw [HN.out]; exact hlt)⟩
      obtain ⟨b,o,b1,d1,rfl,x0,x1,hxs,hxu⟩:=HC.out k x hx
      have x0:=cell_keep hbw x0
      have x1:=cell_keep hbw x1
      have i0:(0:Int) ≤ (k:Int):=by omega
      have i1:(k:Int) < (n:Int):=by omega
      obtain ⟨w1,hw1⟩:∃ Y,Y = wr.alloc (.cells #[.string x.1,.slice b1 x.2.length d1] 47):=⟨_,rfl⟩
      have hbA:Below wr.heap.size wr w1:=by rw [hw1]; exact bel_alloc (Below.refl _ _) _
      obtain ⟨q0,q1,qf⟩:=b2c ((HA.out.keep HB.out).keep hbA)
      have hxk:BlkAt w1 wr.heap.size 47 #[.string x.1,.slice b1 x.2.length d1]:=by rw [hw1]; exact blkAt_newC _ _ _
      obtain ⟨z0,z1,zf⟩:=b2c hxk
      have HRO:=Lib.hid (fun Y => (role_any x.1 Y).mono fun e W' (h:e = .returned (.bool (roleB x.1)) ∧ Y = W') => (⟨h.1,h.2.symm⟩:e = .returned (.bool (roleB x.1)) ∧ W' = Y))
      have HBA:=Lib.hid (below_more hbw hbA)
      have HBB:=Lib.hid (below_more HB.out hbA)
      have HW1:=Lib.hid hw1
      obtain ⟨tb,htb⟩:∃ b,wr.heap.size = b:=⟨_,rfl⟩
      rw [htb] at z0 z1
      have HTB:=Lib.hid htb
      have HU:=Lib.hid (fun Y (hb:Below w.heap.size w Y) => mayURLs_any x.2 (.slice b1 x.2.length d1) Y (hxu.keep hb))
      have Hx:=Lib.hid hx
      clear hbw hbA hxk hx hxu hxs hw1 htb zf qf
      obtain ⟨xn,xu⟩:=x
      simp only at x0 x1 z0 z1 HRO HU HW1
      obtain ⟨ul,hul⟩:∃ n,xu.length = n:=⟨_,rfl⟩
      rw [hul] at x1 z1 HU HW1
      clear hul
      by_cases hk0:k = 0
      ·have gk:decide ((0:Int) < (k:Int)) = false:=decide_eq_false (by omega)
       have gk':decide (0 < k) = false:=decide_eq_false (by omega)
       have hx0:=Hx.out
       rw [hk0] at hx0
       have HX0:=Lib.hid hx0
       have HK0:=Lib.hid hk0
       clear hx0 hk0
       cases ho:roleB xn with
       | true =>
         cases hu:urlsB xu with
         | true =>
           have HT2:Hid (repoTo M.repos (k + 1) = true):=by
            show _ = _
            rw [HK0.out,repoTo_first HX0.out]
            simp [okR,ho,hu]
           rw [ho] at HRO
           rw [hu] at HU
           clear ho hu
           go_wp2_with fail
           rw [← HW1.out,HTB.out]
           go_still_tail 23,(by kernel_rfl)
           still_call (HRO.out _)
           repeat still_step
           refine wpStill_nil ?_
           change wpList _ _ _ _ _ w1.drew
           go_wp2_with fail
           refine (HU.out _ (bel_drew HBA.out)).mono ?_
           rintro e w5 ⟨rfl,hb5⟩
           have HB5:=Lib.hid (below_more (bel_drew HBB.out) hb5)
           clear hb5
           go_wp2_with fail
           exact ⟨⟨k + 1,by omega,by go_num,HT2,HB5⟩,by simp [intOf]; omega⟩
         | false =>
           have hno:((ascB (namesR M.repos) && M.repos.all okR) && wrongs M) = false:=by rw [repoTo_mono (k:=k + 1) (by rw [HN.out]; omega) (by rw [HK0.out,repoTo_first HX0.out]; simp [okR,ho,hu])]; rfl
           rw [HR.out] at hno
           subst hno
           rw [ho] at HRO
           rw [hu] at HU
           clear ho hu
           go_wp2_with fail
           rw [← HW1.out,HTB.out]
           go_still_tail 23,(by kernel_rfl)
           still_call (HRO.out _)
           repeat still_step
           refine wpStill_nil ?_
           change wpList _ _ _ _ _ w1.drew
           go_wp2_with fail
           refine (HU.out _ (bel_drew HBA.out)).mono ?_
           rintro e w5 ⟨rfl,hb5⟩
           have HB5:=Lib.hid (below_more (bel_drew HBA.out) hb5)
           clear hb5
           go_wp2_with fail
           go_ret
           exact ⟨rfl,HB5.out⟩
       | false =>
         have hno:((ascB (namesR M.repos) && M.repos.all okR) && wrongs M) = false:=by rw [repoTo_mono (k:=k + 1) (by rw [HN.out]; omega) (by rw [HK0.out,repoTo_first HX0.out]; simp [okR,ho])]; rfl
         rw [HR.out] at hno
         subst hno
         rw [ho] at HRO
         clear ho
         go_wp2_with fail
         rw [← HW1.out,HTB.out]
         go_still_tail 23,(by kernel_rfl)
         still_call (HRO.out _)
         repeat still_step
         refine wpStill_nil ?_
         change wpList _ _ _ _ _ w1.drew
         go_wp2_with fail
         go_ret
         exact ⟨rfl,bel_drew HBA.out⟩
      ·obtain ⟨j,rfl⟩:∃ j,k = j + 1:=⟨k - 1,by omega⟩
       obtain ⟨y,hy⟩:∃ x,M.repos[j]? = some x:=⟨_,List.getElem?_eq_getElem (by rw [HN.out]; omega)⟩
       obtain ⟨b',o',b2',d2',e3,y0,-,-,-⟩:=HC.out j y hy
       simp only [Option.some.injEq,Addr.mk.injEq,and_true] at e3
       obtain ⟨rfl,rfl⟩:=e3
       have y0':=cell_keep HBA.out y0
       have Hy:=Lib.hid hy
       clear hy y0
       obtain ⟨yn,yu⟩:=y
       simp only at y0'
       have hj0:(0:Int) ≤ (j:Int):=by omega
       have hj1:(j:Int) < (n:Int):=by omega
       have hj2:(j:Int) + 1 < (n:Int):=by omega
       have hj3:((j:Int) + 1).toNat = j + 1:=by omega
       have hw1:IntKind.i64.wrap ((j:Int) + 1 - 1) = (j:Int):=by rw [IntWalk.i64_in ((j:Int) + 1 - 1) (by omega)]; omega
       have hw2:IntKind.i64.wrap (j:Int) = (j:Int):=by rw [IntWalk.i64_in (j:Int) (by omega)]
       have gk:decide ((0:Int) < (j:Int) + 1) = true:=decide_eq_true (by omega)
       have HSTEP:Hid (repoTo M.repos (j + 2) = (repoTo M.repos (j + 1) && (Op.bytesLess yn.toList xn.toList && okR (xn,xu)))):=repoTo_step Hy.out Hx.out
       cases ho:roleB xn with
       | true =>
         cases hl:Op.bytesLess yn.toList xn.toList with
         | true =>
           cases hu:urlsB xu with
           | true =>
             have HT2:Hid (repoTo M.repos (j + 1 + 1) = true):=by
              show _ = _
              rw [HSTEP.out,HT.out]
              simp [okR,ho,hu,hl]
             rw [ho] at HRO
             rw [hu] at HU
             clear ho hu
             go_wp2_with fail
             rw [← HW1.out,HTB.out]
             go_still_tail 23,(by kernel_rfl)
             still_call (HRO.out _)
             repeat still_step
             refine wpStill_nil ?_
             change wpList _ _ _ _ _ w1.drew
             go_wp2_with fail
             refine (HU.out _ (bel_drew HBA.out)).mono ?_
             rintro e w5 ⟨rfl,hb5⟩
             have HB5:=Lib.hid (below_more (bel_drew HBB.out) hb5)
             clear hb5
             go_wp2_with fail
             exact ⟨⟨j + 1 + 1,by omega,by go_num,HT2,HB5⟩,by simp [intOf]; omega⟩
           | false =>
             have hno:((ascB (namesR M.repos) && M.repos.all okR) && wrongs M) = false:=by rw [repoTo_mono (k:=j + 1 + 1) (by rw [HN.out]; omega) (by rw [HSTEP.out,HT.out]; simp [okR,ho,hu])]; rfl
             rw [HR.out] at hno
             subst hno
             rw [ho] at HRO
             rw [hu] at HU
             clear ho hu
             go_wp2_with fail
             rw [← HW1.out,HTB.out]
             go_still_tail 23,(by kernel_rfl)
             still_call (HRO.out _)
             repeat still_step
             refine wpStill_nil ?_
             change wpList _ _ _ _ _ w1.drew
             go_wp2_with fail
             refine (HU.out _ (bel_drew HBA.out)).mono ?_
             rintro e w5 ⟨rfl,hb5⟩
             have HB5:=Lib.hid (below_more (bel_drew HBA.out) hb5)
             clear hb5
             go_wp2_with fail
             go_ret
             exact ⟨rfl,HB5.out⟩
         | false =>
           have hno:((ascB (namesR M.repos) && M.repos.all okR) && wrongs M) = false:=by rw [repoTo_mono (k:=j + 1 + 1) (by rw [HN.out]; omega) (by rw [HSTEP.out,hl]; simp)]; rfl
           rw [HR.out] at hno
           subst hno
           rw [ho] at HRO
           clear ho
           go_wp2_with fail
           rw [← HW1.out,HTB.out]
           go_still_tail 23,(by kernel_rfl)
           still_call (HRO.out _)
           repeat still_step
           refine wpStill_nil ?_
           change wpList _ _ _ _ _ w1.drew
           go_wp2_with fail
           go_ret
           exact ⟨rfl,bel_drew HBA.out⟩
       | false =>
         have hno:((ascB (namesR M.repos) && M.repos.all okR) && wrongs M) = false:=by rw [repoTo_mono (k:=j + 1 + 1) (by rw [HN.out]; omega) (by rw [HSTEP.out]; simp [okR,ho])]; rfl
         rw [HR.out] at hno
         subst hno
         rw [ho] at HRO
         clear ho
         go_wp2_with fail
         rw [← HW1.out,HTB.out]
         go_still_tail 23,(by kernel_rfl)
         still_call (HRO.out _)
         repeat still_step
         refine wpStill_nil ?_
         change wpList _ _ _ _ _ w1.drew
         go_wp2_with fail
         go_ret
         exact ⟨rfl,bel_drew HBA.out⟩
     ·obtain rfl:k = n:=by omega
      have hj1:¬ (k:Int) < (k:Int):=by omega
      have hall:=HT.out
      rw [repoTo_all HN.out (by omega)] at hall
      have hr:=HR.out
      rw [hall,Bool.true_and] at hr
      unfold wrongs at hr
      have HRW:=Lib.hid hr
      have HB0:=Lib.hid HB.out
      clear hall hr HT HR HC
      go_wp2_with fail
      go_loopw [61] (fun i wr => ∃ k:Nat,k ≤ m ∧ i = .int .i64 k ∧ Hid ((M.maps.take k).all (fun x => decide (wrongV x (namesR M.repos) = 0)) = true) ∧ Hid (Below W.heap.size W wr)) (fun i _ => m - (intOf i).toNat)
      case atStart => exact ⟨0,by omega,rfl,(by show _ = _; simp),HB0.out⟩
      case round =>
       obtain ⟨i,hi,rfl,HT2,HB2⟩:=hrel
       have hbw:=below_more HBW.out HB2.out
       by_cases hlt2:i < m
       ·obtain ⟨x,hx⟩:∃ x,M.maps[i]? = some x:=⟨_,List.getElem?_eq_getElem (by rw [HK.out]; exact hlt2)⟩
        obtain ⟨b,o,b1,d1,b2,d2,rfl,x0,x1,x2,x3,hs1,hs2,hmx⟩:=HD.out i x hx
        have hcap:x.repos.length ≤ d2:=by obtain ⟨_,_,_,_,e,-,-,hcp,-⟩:=hmx.parts; simp only [Value.agg.injEq,Array.mk.injEq,List.cons.injEq,Value.slice.injEq] at e; omega
        have x0:=cell_keep hbw x0
        have x1:=cell_keep hbw x1
        have x2:=cell_keep hbw x2
        have x3:=cell_keep hbw x3
        have i0:(0:Int) ≤ (i:Int):=by omega
        have i1:(i:Int) < (m:Int):=by omega
        have hbA:=bel_alloc (Below.refl wr.heap.size wr) (.cells #[.slice b1 x.paths.length d1,.slice b2 x.repos.length d2,.bool x.term,.int .i64 x.thr] 50)
        obtain ⟨q0,q1,qf⟩:=b2c ((HA.out.keep HB2.out).keep hbA)
        have HBA:=Lib.hid (below_more hbw hbA)
        have HBB:=Lib.hid (below_more HB2.out hbA)
        have HWR:=Lib.hid (cWrong_any x M.repos b1 b2 d1 d2 _ _ (hs1.keep HBA.out) (hs2.keep HBA.out) hcap (HQ.out.keep HBA.out))
        by_cases hw0:wrongV x (namesR M.repos) = 0
        ·have HT3:Hid ((M.maps.take (i + 1)).all (fun x => decide (wrongV x (namesR M.repos) = 0)) = true):=by
          show _ = _
          rw [List.take_add_one,hx,List.all_append,HT2.out]
          simp [hw0]
         rw [hw0] at HWR
         clear hw0 hx hs1 hs2 hmx hcap hbw hbA HT2
         go_wp2_with fail
         refine HWR.out.mono ?_
         rintro e w3 ⟨rfl,hb3⟩
         have HB3:=Lib.hid (below_more HBB.out hb3)
         clear hb3
         go_wp2_with fail
         exact ⟨⟨i + 1,by omega,by go_num,HT3,HB3⟩,by simp [intOf]; omega⟩
        ·have hno:M.maps.all (fun x => decide (wrongV x (namesR M.repos) = 0)) = false:=List.all_eq_false.2 ⟨x,List.mem_of_getElem? hx,by simp [hw0]⟩
         rw [HRW.out] at hno
         subst hno
         have hwb:(wrongV x (namesR M.repos) != 0) = true:=bne_iff_ne.2 hw0
         obtain ⟨we,hwe⟩:∃ e,wrongV x (namesR M.repos) = e:=⟨_,rfl⟩
         rw [hwe] at HWR hwb
         clear hw0 hx hs1 hs2 hmx hcap hbw hbA HT2 hwe
         go_wp2_with fail
         refine HWR.out.mono ?_
         rintro e w3 ⟨rfl,hb3⟩
         have HB3:=Lib.hid (below_more HBA.out hb3)
         clear hb3
         go_wp2_with fail
         go_ret
         exact ⟨rfl,HB3.out⟩
       ·have i1:¬ (i:Int) < (m:Int):=by omega
        have hall:=HT2.out
        rw [List.take_of_length_le (by rw [HK.out]; omega),HRW.out] at hall
        subst hall
        have HBE:=Lib.hid hbw
        clear hbw HT2
        go_wp2_with fail
        go_ret
        exact ⟨rfl,HBE.out⟩
end Go.Proofs.YtkphgjkflhjfjaaGreatDoor
