/-
  chart.May: whether a map may be.
  chart.Value: the object of a map.
  legatelaw25.members: an object's members in a row. Written by gen_chart_mem.py.
-/
import Derived.Test.YtchinankclckjaaGreatDoorChartD
import Derived.StillTailTactics
import Derived.Test.YtchinankclckjaaGreatDoorChartZ
import Derived.Test.YtchinankclckjaaGreatDoorPickB
namespace Go.Proofs.YtchinankclckjaaGreatDoor
set_option maxHeartbeats 64000000
section
set_option maxRecDepth 100000
open Go.RowKit
def okR (r:RepoP):Bool:=roleB r.1 && urlsB r.2
def repoTo (l:List RepoP) (k:Nat):Bool:=ascTo (namesR l) k && (l.take k).all okR
theorem namesR_get {l:List RepoP} {i:Nat} {x:RepoP} (h:l[i]?=some x):(namesR l).getD i ByteArray.empty=x.1:=by
 unfold namesR
 rw [List.getD_eq_getElem?_getD,List.getElem?_map,h]
 rfl
theorem repoTo_first {l:List RepoP} {x:RepoP} (h:l[0]?=some x):repoTo l 1=okR x:=by
 have:l.take 1=[x]:=by
  match l,h with
  | y :: r,h=>simp at h;subst h;rfl
 unfold repoTo
 rw [this]
 simp [ascTo]
theorem repoTo_step {l:List RepoP} {k:Nat} {x y:RepoP} (hx:l[k]?=some x) (hy:l[k+1]?=some y):repoTo l (k+2)=(repoTo l (k+1) && (Op.bytesLess x.1.toList y.1.toList && okR y)):=by
 unfold repoTo
 have h1:ascTo (namesR l) (k+2)=(ascTo (namesR l) (k+1) && Op.bytesLess x.1.toList y.1.toList):=by
  unfold ascTo
  rw [show k+2 - 1=k+1 by omega,show k+1 - 1=k by omega,List.range_succ,List.all_append]
  simp only [List.all_cons,List.all_nil,Bool.and_true,lessAt]
  rw [namesR_get hx,namesR_get hy]
 have h2:(l.take (k+2)).all okR=((l.take (k+1)).all okR && okR y):=by
  rw [List.take_add_one,hy,List.all_append]
  simp
 rw [h1,h2]
 cases ascTo (namesR l) (k+1) <;> cases (l.take (k+1)).all okR <;> cases Op.bytesLess x.1.toList y.1.toList <;> cases okR y <;> rfl
theorem repoTo_all {l:List RepoP} {n:Nat} (hn:l.length=n) (_h0:0<n):repoTo l n=(ascB (namesR l) && l.all okR):=by
 unfold repoTo
 rw [List.take_of_length_le (by omega)]
 congr 1
 unfold ascTo ascB namesR
 rw [List.length_map,hn]
theorem repoTo_mono {l:List RepoP} {k:Nat} (hk:k≤l.length) (h:repoTo l k=false):(ascB (namesR l) && l.all okR)=false:=by
 rw [Bool.and_eq_false_iff]
 unfold repoTo at h
 rcases (Bool.and_eq_false_iff).1 h with h | h
 ·left
  unfold ascTo at h
  rw [ascB,List.all_eq_false]
  obtain ⟨i,hi,hx⟩:=List.all_eq_false.1 h
  refine ⟨i,List.mem_range.2 ?_,hx⟩
  have:=List.mem_range.1 hi
  unfold namesR
  rw [List.length_map]
  omega
 ·right
  obtain ⟨x,hx,h2⟩:=List.all_eq_false.1 h
  exact List.all_eq_false.2 ⟨x,List.mem_of_mem_take hx,h2⟩
def wrongs (M:MapP):Bool:=M.maps.all (fun x=>decide (wrongV x (namesR M.repos)=0))
theorem mayM_eq (M:MapP):mayM M=(decide (1≤M.repos.length) && decide (M.repos.length≤8) && decide (M.maps.length≤16) && (ascB (namesR M.repos) && M.repos.all okR) && wrongs M):=by
 unfold mayM wrongs okR
 simp only [Bool.and_assoc]
attribute [local irreducible] wpStill wpList in
theorem cMay_any (M:MapP) (v:Value) (w:World) (h:MapAt w v M) :
 Calls Tryz.prog 6 #[v] w fun e w'=>e=.returned (.bool (mayM M))∧Below w.heap.size w w':=by
 obtain ⟨a1,c1,a2,c2,rfl,hr,hm⟩:=h.parts
 obtain ⟨_,_,e1,hl1,hc⟩:=hr.at
 obtain ⟨_,_,e2,hl2,hd⟩:=hm.at
 simp only [Value.slice.injEq,true_and] at e1 e2
 obtain ⟨rfl,rfl⟩:=e1
 obtain ⟨rfl,rfl⟩:=e2
 obtain ⟨r,hrr⟩:∃ r,mayM M=r:=⟨_,rfl⟩
 rw [hrr]
 rw [mayM_eq] at hrr
 obtain ⟨n,hn⟩:∃ n,M.repos.length=n:=⟨_,rfl⟩
 obtain ⟨m,hk⟩:∃ n,M.maps.length=n:=⟨_,rfl⟩
 rw [hn] at hr hl1 hrr ⊢
 rw [hk] at hl2 hrr ⊢
 obtain ⟨W,hW⟩:∃ W,W=w.alloc (.cells #[.slice a1 n c1,.slice a2 m c2] 25):=⟨_,rfl⟩
 have hBW:Below w.heap.size w W:=by rw [hW];exact bel_alloc (Below.refl _ _) _
 have HA:Hid (BlkAt W w.heap.size 25 #[.slice a1 n c1,.slice a2 m c2]):=by rw [hW];exact blkAt_newC w _ _
 have HW:=Lib.hid hW
 have HBW:=Lib.hid hBW
 have HC:=Lib.hid hc
 have HD:=Lib.hid hd
 have HN:=Lib.hid hn
 have HK:=Lib.hid hk
 have HQ:=Lib.hid hr
 obtain ⟨p0,p1,pf⟩:=b2c HA.out
 clear h hr hm hc hd hn hk hW hBW
 by_cases h1:n<1
 ·obtain rfl:false=r:=by rw [← hrr,decide_eq_false (by omega)];rfl
  have g1:decide ((n:Int)<1)=true:=decide_eq_true (by omega)
  have g1':decide (n<1)=true:=decide_eq_true h1
  clear hrr
  go_enter Tryz.func6,Tryz.ntmps6
  go_wp2_with fail
  rw [← HW.out]
  go_ret
  exact ⟨rfl,HBW.out⟩
 ·have g1:decide ((n:Int)<1)=false:=decide_eq_false (by omega)
  have g1':decide (n<1)=false:=decide_eq_false h1
  by_cases h2:8<n
  ·obtain rfl:false=r:=by rw [← hrr,decide_eq_false (show ¬ n≤8 by omega)];simp
   have g2:decide ((8:Int)<(n:Int))=true:=decide_eq_true (by omega)
   have g2':decide (8<n)=true:=decide_eq_true h2
   clear hrr
   go_enter Tryz.func6,Tryz.ntmps6
   go_wp2_with fail
   rw [← HW.out]
   go_ret
   exact ⟨rfl,HBW.out⟩
  ·have g2:decide ((8:Int)<(n:Int))=false:=decide_eq_false (by omega)
   have g2':decide (8<n)=false:=decide_eq_false h2
   by_cases h3:16<m
   ·obtain rfl:false=r:=by rw [← hrr,decide_eq_false (show ¬ m≤16 by omega)];simp
    have g3:decide ((16:Int)<(m:Int))=true:=decide_eq_true (by omega)
    have g3':decide (16<m)=true:=decide_eq_true h3
    clear hrr
    go_enter Tryz.func6,Tryz.ntmps6
    go_wp2_with fail
    rw [← HW.out]
    go_ret
    exact ⟨rfl,HBW.out⟩
   ·have g3:decide ((16:Int)<(m:Int))=false:=decide_eq_false (by omega)
    have g3':decide (16<m)=false:=decide_eq_false h3
    have hr2:((ascB (namesR M.repos) && M.repos.all okR) && wrongs M)=r:=by
     rw [← hrr,decide_eq_true (show 1≤n by omega),decide_eq_true (show n≤8 by omega),decide_eq_true (show m≤16 by omega)]
     rfl
    have HR:=Lib.hid hr2
    clear hrr hr2
    go_enter Tryz.func6,Tryz.ntmps6
    go_wp2_with fail
    rw [← HW.out]
    go_loopw [26] (fun i wr=>∃ k:Nat,k≤n∧i=.int .i64 k∧Hid (repoTo M.repos k=true)∧Hid (Below W.heap.size W wr)) (fun i _=>n - (intOf i).toNat)
    case atStart=>exact ⟨0,by omega,rfl,rfl,Below.refl _ _⟩
    case round =>
     obtain ⟨k,hk,rfl,HT,HB⟩:=hrel
     have hbw:=below_more HBW.out HB.out
     obtain ⟨q0,q1,qf⟩:=b2c (HA.out.keep HB.out)
     by_cases hlt:k<n
     ·obtain ⟨x,hx⟩:∃ x,M.repos[k]?=some x:=⟨_,List.getElem?_eq_getElem (by rw [HN.out];exact hlt)⟩
      obtain ⟨b,o,b1,d1,rfl,x0,x1,hxs,hxu⟩:=HC.out k x hx
      have x0:=cell_keep hbw x0
      have x1:=cell_keep hbw x1
      have i0:(0:Int)≤(k:Int):=by omega
      have i1:(k:Int)<(n:Int):=by omega
      obtain ⟨w1,hw1⟩:∃ Y,Y=wr.alloc (.cells #[.string x.1,.slice b1 x.2.length d1] 48):=⟨_,rfl⟩
      have hbA:Below wr.heap.size wr w1:=by rw [hw1];exact bel_alloc (Below.refl _ _) _
      obtain ⟨q0,q1,qf⟩:=b2c ((HA.out.keep HB.out).keep hbA)
      have hxk:BlkAt w1 wr.heap.size 48 #[.string x.1,.slice b1 x.2.length d1]:=by rw [hw1];exact blkAt_newC _ _ _
      obtain ⟨z0,z1,zf⟩:=b2c hxk
      have HRO:=Lib.hid (fun Y=>(role_any x.1 Y).mono fun e W' (h:e=.returned (.bool (roleB x.1))∧Y=W')=>(⟨h.1,h.2.symm⟩:e=.returned (.bool (roleB x.1))∧W'=Y))
      have HBA:=Lib.hid (below_more hbw hbA)
      have HBB:=Lib.hid (below_more HB.out hbA)
      have HW1:=Lib.hid hw1
      obtain ⟨tb,htb⟩:∃ b,wr.heap.size=b:=⟨_,rfl⟩
      rw [htb] at z0 z1
      have HTB:=Lib.hid htb
      have HU:=Lib.hid (fun Y (hb:Below w.heap.size w Y)=>mayURLs_any x.2 (.slice b1 x.2.length d1) Y (hxu.keep hb))
      have Hx:=Lib.hid hx
      clear hbw hbA hxk hx hxu hxs hw1 htb zf qf
      obtain ⟨xn,xu⟩:=x
      simp only at x0 x1 z0 z1 HRO HU HW1
      obtain ⟨ul,hul⟩:∃ n,xu.length=n:=⟨_,rfl⟩
      rw [hul] at x1 z1 HU HW1
      clear hul
      by_cases hk0:k=0
      ·have gk:decide ((0:Int)<(k:Int))=false:=decide_eq_false (by omega)
       have gk':decide (0<k)=false:=decide_eq_false (by omega)
       have hx0:=Hx.out
       rw [hk0] at hx0
       have HX0:=Lib.hid hx0
       have HK0:=Lib.hid hk0
       clear hx0 hk0
       cases ho:roleB xn with
       | true =>
         cases hu:urlsB xu with
         | true =>
           have HT2:Hid (repoTo M.repos (k+1)=true):=by
            show _=_
            rw [HK0.out,repoTo_first HX0.out]
            simp [okR,ho,hu]
           rw [ho] at HRO
           rw [hu] at HU
           clear ho hu
           go_wp2_with fail
           rw [← HW1.out,HTB.out]
           go_still_tail 23,(by kernel_rfl)
           still_call (HRO.out _)
           repeat still_step
           refine wpStill_nil ?_
           change wpList _ _ _ _ _ w1.drew
           go_wp2_with fail
           refine (HU.out _ (bel_drew HBA.out)).mono ?_
           rintro e w5 ⟨rfl,hb5⟩
           have HB5:=Lib.hid (below_more (bel_drew HBB.out) hb5)
           clear hb5
           go_wp2_with fail
           exact ⟨⟨k+1,by omega,by go_num,HT2,HB5⟩,by simp [intOf];omega⟩
         | false =>
           have hno:((ascB (namesR M.repos) && M.repos.all okR) && wrongs M)=false:=by rw [repoTo_mono (k:=k+1) (by rw [HN.out];omega) (by rw [HK0.out,repoTo_first HX0.out];simp [okR,ho,hu])];rfl
           rw [HR.out] at hno
           subst hno
           rw [ho] at HRO
           rw [hu] at HU
           clear ho hu
           go_wp2_with fail
           rw [← HW1.out,HTB.out]
           go_still_tail 23,(by kernel_rfl)
           still_call (HRO.out _)
           repeat still_step
           refine wpStill_nil ?_
           change wpList _ _ _ _ _ w1.drew
           go_wp2_with fail
           refine (HU.out _ (bel_drew HBA.out)).mono ?_
           rintro e w5 ⟨rfl,hb5⟩
           have HB5:=Lib.hid (below_more (bel_drew HBA.out) hb5)
           clear hb5
           go_wp2_with fail
           go_ret
           exact ⟨rfl,HB5.out⟩
       | false =>
         have hno:((ascB (namesR M.repos) && M.repos.all okR) && wrongs M)=false:=by rw [repoTo_mono (k:=k+1) (by rw [HN.out];omega) (by rw [HK0.out,repoTo_first HX0.out];simp [okR,ho])];rfl
         rw [HR.out] at hno
         subst hno
         rw [ho] at HRO
         clear ho
         go_wp2_with fail
         rw [← HW1.out,HTB.out]
         go_still_tail 23,(by kernel_rfl)
         still_call (HRO.out _)
         repeat still_step
         refine wpStill_nil ?_
         change wpList _ _ _ _ _ w1.drew
         go_wp2_with fail
         go_ret
         exact ⟨rfl,bel_drew HBA.out⟩
      ·obtain ⟨j,rfl⟩:∃ j,k=j+1:=⟨k - 1,by omega⟩
       obtain ⟨y,hy⟩:∃ x,M.repos[j]?=some x:=⟨_,List.getElem?_eq_getElem (by rw [HN.out];omega)⟩
       obtain ⟨b',o',b2',d2',e3,y0,-,-,-⟩:=HC.out j y hy
       simp only [Option.some.injEq,Addr.mk.injEq,and_true] at e3
       obtain ⟨rfl,rfl⟩:=e3
       have y0':=cell_keep HBA.out y0
       have Hy:=Lib.hid hy
       clear hy y0
       obtain ⟨yn,yu⟩:=y
       simp only at y0'
       have hj0:(0:Int)≤(j:Int):=by omega
       have hj1:(j:Int)<(n:Int):=by omega
       have hj2:(j:Int)+1<(n:Int):=by omega
       have hj3:((j:Int)+1).toNat=j+1:=by omega
       have hw1:IntKind.i64.wrap ((j:Int)+1 - 1)=(j:Int):=by rw [IntWalk.i64_in ((j:Int)+1 - 1) (by omega)];omega
       have hw2:IntKind.i64.wrap (j:Int)=(j:Int):=by rw [IntWalk.i64_in (j:Int) (by omega)]
       have gk:decide ((0:Int)<(j:Int)+1)=true:=decide_eq_true (by omega)
       have HSTEP:Hid (repoTo M.repos (j+2)=(repoTo M.repos (j+1) && (Op.bytesLess yn.toList xn.toList && okR (xn,xu)))):=repoTo_step Hy.out Hx.out
       cases ho:roleB xn with
       | true =>
         cases hl:Op.bytesLess yn.toList xn.toList with
         | true =>
           cases hu:urlsB xu with
           | true =>
             have HT2:Hid (repoTo M.repos (j+1+1)=true):=by
              show _=_
              rw [HSTEP.out,HT.out]
              simp [okR,ho,hu,hl]
             rw [ho] at HRO
             rw [hu] at HU
             clear ho hu
             go_wp2_with fail
             rw [← HW1.out,HTB.out]
             go_still_tail 23,(by kernel_rfl)
             still_call (HRO.out _)
             repeat still_step
             refine wpStill_nil ?_
             change wpList _ _ _ _ _ w1.drew
             go_wp2_with fail
             refine (HU.out _ (bel_drew HBA.out)).mono ?_
             rintro e w5 ⟨rfl,hb5⟩
             have HB5:=Lib.hid (below_more (bel_drew HBB.out) hb5)
             clear hb5
             go_wp2_with fail
             exact ⟨⟨j+1+1,by omega,by go_num,HT2,HB5⟩,by simp [intOf];omega⟩
           | false =>
             have hno:((ascB (namesR M.repos) && M.repos.all okR) && wrongs M)=false:=by rw [repoTo_mono (k:=j+1+1) (by rw [HN.out];omega) (by rw [HSTEP.out,HT.out];simp [okR,ho,hu])];rfl
             rw [HR.out] at hno
             subst hno
             rw [ho] at HRO
             rw [hu] at HU
             clear ho hu
             go_wp2_with fail
             rw [← HW1.out,HTB.out]
             go_still_tail 23,(by kernel_rfl)
             still_call (HRO.out _)
             repeat still_step
             refine wpStill_nil ?_
             change wpList _ _ _ _ _ w1.drew
             go_wp2_with fail
             refine (HU.out _ (bel_drew HBA.out)).mono ?_
             rintro e w5 ⟨rfl,hb5⟩
             have HB5:=Lib.hid (below_more (bel_drew HBA.out) hb5)
             clear hb5
             go_wp2_with fail
             go_ret
             exact ⟨rfl,HB5.out⟩
         | false =>
           have hno:((ascB (namesR M.repos) && M.repos.all okR) && wrongs M)=false:=by rw [repoTo_mono (k:=j+1+1) (by rw [HN.out];omega) (by rw [HSTEP.out,hl];simp)];rfl
           rw [HR.out] at hno
           subst hno
           rw [ho] at HRO
           clear ho
           go_wp2_with fail
           rw [← HW1.out,HTB.out]
           go_still_tail 23,(by kernel_rfl)
           still_call (HRO.out _)
           repeat still_step
           refine wpStill_nil ?_
           change wpList _ _ _ _ _ w1.drew
           go_wp2_with fail
           go_ret
           exact ⟨rfl,bel_drew HBA.out⟩
       | false =>
         have hno:((ascB (namesR M.repos) && M.repos.all okR) && wrongs M)=false:=by rw [repoTo_mono (k:=j+1+1) (by rw [HN.out];omega) (by rw [HSTEP.out];simp [okR,ho])];rfl
         rw [HR.out] at hno
         subst hno
         rw [ho] at HRO
         clear ho
         go_wp2_with fail
         rw [← HW1.out,HTB.out]
         go_still_tail 23,(by kernel_rfl)
         still_call (HRO.out _)
         repeat still_step
         refine wpStill_nil ?_
         change wpList _ _ _ _ _ w1.drew
         go_wp2_with fail
         go_ret
         exact ⟨rfl,bel_drew HBA.out⟩
     ·obtain rfl:k=n:=by omega
      have hj1:¬ (k:Int)<(k:Int):=by omega
      have hall:=HT.out
      rw [repoTo_all HN.out (by omega)] at hall
      have hr:=HR.out
      rw [hall,Bool.true_and] at hr
      unfold wrongs at hr
      have HRW:=Lib.hid hr
      have HB0:=Lib.hid HB.out
      clear hall hr HT HR HC
      go_wp2_with fail
      go_loopw [61] (fun i wr=>∃ k:Nat,k≤m∧i=.int .i64 k∧Hid ((M.maps.take k).all (fun x=>decide (wrongV x (namesR M.repos)=0))=true)∧Hid (Below W.heap.size W wr)) (fun i _=>m - (intOf i).toNat)
      case atStart=>exact ⟨0,by omega,rfl,(by show _=_;simp),HB0.out⟩
      case round =>
       obtain ⟨i,hi,rfl,HT2,HB2⟩:=hrel
       have hbw:=below_more HBW.out HB2.out
       by_cases hlt2:i<m
       ·obtain ⟨x,hx⟩:∃ x,M.maps[i]?=some x:=⟨_,List.getElem?_eq_getElem (by rw [HK.out];exact hlt2)⟩
        obtain ⟨b,o,b1,d1,b2,d2,rfl,x0,x1,x2,x3,hs1,hs2,hmx⟩:=HD.out i x hx
        have hcap:x.repos.length≤d2:=by obtain ⟨_,_,_,_,e,-,-,hcp,-⟩:=hmx.parts;simp only [Value.agg.injEq,Array.mk.injEq,List.cons.injEq,Value.slice.injEq] at e;omega
        have x0:=cell_keep hbw x0
        have x1:=cell_keep hbw x1
        have x2:=cell_keep hbw x2
        have x3:=cell_keep hbw x3
        have i0:(0:Int)≤(i:Int):=by omega
        have i1:(i:Int)<(m:Int):=by omega
        have hbA:=bel_alloc (Below.refl wr.heap.size wr) (.cells #[.slice b1 x.paths.length d1,.slice b2 x.repos.length d2,.bool x.term,.int .i64 x.thr] 55)
        obtain ⟨q0,q1,qf⟩:=b2c ((HA.out.keep HB2.out).keep hbA)
        have HBA:=Lib.hid (below_more hbw hbA)
        have HBB:=Lib.hid (below_more HB2.out hbA)
        have HWR:=Lib.hid (cWrong_any x M.repos b1 b2 d1 d2 _ _ (hs1.keep HBA.out) (hs2.keep HBA.out) hcap (HQ.out.keep HBA.out))
        by_cases hw0:wrongV x (namesR M.repos)=0
        ·have HT3:Hid ((M.maps.take (i+1)).all (fun x=>decide (wrongV x (namesR M.repos)=0))=true):=by
          show _=_
          rw [List.take_add_one,hx,List.all_append,HT2.out]
          simp [hw0]
         rw [hw0] at HWR
         clear hw0 hx hs1 hs2 hmx hcap hbw hbA HT2
         go_wp2_with fail
         refine HWR.out.mono ?_
         rintro e w3 ⟨rfl,hb3⟩
         have HB3:=Lib.hid (below_more HBB.out hb3)
         clear hb3
         go_wp2_with fail
         exact ⟨⟨i+1,by omega,by go_num,HT3,HB3⟩,by simp [intOf];omega⟩
        ·have hno:M.maps.all (fun x=>decide (wrongV x (namesR M.repos)=0))=false:=List.all_eq_false.2 ⟨x,List.mem_of_getElem? hx,by simp [hw0]⟩
         rw [HRW.out] at hno
         subst hno
         have hwb:(wrongV x (namesR M.repos) != 0)=true:=bne_iff_ne.2 hw0
         obtain ⟨we,hwe⟩:∃ e,wrongV x (namesR M.repos)=e:=⟨_,rfl⟩
         rw [hwe] at HWR hwb
         clear hw0 hx hs1 hs2 hmx hcap hbw hbA HT2 hwe
         go_wp2_with fail
         refine HWR.out.mono ?_
         rintro e w3 ⟨rfl,hb3⟩
         have HB3:=Lib.hid (below_more HBA.out hb3)
         clear hb3
         go_wp2_with fail
         go_ret
         exact ⟨rfl,HB3.out⟩
       ·have i1:¬ (i:Int)<(m:Int):=by omega
        have hall:=HT2.out
        rw [List.take_of_length_le (by rw [HK.out];omega),HRW.out] at hall
        subst hall
        have HBE:=Lib.hid hbw
        clear hbw HT2
        go_wp2_with fail
        go_ret
        exact ⟨rfl,HBE.out⟩
end

section
set_option maxRecDepth 100000
open Go.RowKit
def MemsOwnP (w:World) (B:Nat) (v:Value) (xs:List XM):Prop:=w.ownsRow B 41 6 v xs.length (xmCells xs)∧∀ x ∈ xs,ValAt (hidden (offB B v.ownBlock) w) x.V x.c.val
theorem MemsOwnP.nil (w:World) (B:Nat):MemsOwnP w B (.slice none 0 0) []:=⟨World.ownsRow_nil _ _ _ _,by simp⟩
theorem MemsOwnP.keep {w w':World} {B:Nat} {v:Value} {xs:List XM} (h:MemsOwnP w B v xs) (hb:Below w.heap.size w w'):MemsOwnP w' B v xs :=
 ⟨ownsRow_keep h.1 hb,fun x hx=>(h.2 x hx).carry fun k hk hP=>⟨hP,hb.block k hk⟩⟩
theorem MemsOwnP.snoc {wr w1 w5:World} {B:Nat} {vI v':Value} {xs:List XM} {nm:ByteArray} {x:VC} {V:JV} (h:MemsOwnP wr B vI xs) (hx:NewV wr.heap.size w1 V x.val) (hB:B≤wr.heap.size) (hb:Below wr.heap.size wr w1)
 (hat:v'.ownBlock=vI.ownBlock∨v'.ownBlock=some w1.heap.size) (hown:w5.ownsRow B 41 6 v' (xs.length+1) (xmCells xs++XM.cells ⟨nm,x,V⟩))
 (hg:w1.grownBy w5 vI.ownBlock):MemsOwnP w5 B v' (xs++[⟨nm,x,V⟩]):=by
 have hne:∀ k,k<w1.heap.size→vI.ownBlock≠some k→v'.ownBlock≠some k:=fun k hk1 hk2=>by
  rcases hat with e | e
  ·rw [e];exact hk2
  ·rw [e];intro e2;cases e2;omega
 have hsz:=hb.size
 refine ⟨by rw [List.length_append,xmCells_snoc];exact hown,fun y hy=>?_⟩
 rw [List.mem_append] at hy
 rcases hy with hy | hy
 ·refine (h.2 y hy).carry fun k hk1 hk2=>?_
  obtain ⟨a,b⟩:=offB_no.1 hk2
  exact ⟨offB_no.2 ⟨a,hne k (by omega) b⟩,(hg.block k (by omega) (fun e=>b e.symm)).trans (hb.block k hk1)⟩
 ·simp only [List.mem_singleton] at hy
  subst hy
  refine ValAt.carry hx fun k hk1 hk2=>?_
  have a:=offB_none.1 hk2
  have b:vI.ownBlock≠some k:=fun e=>by
   have:=(World.ownsRow.lt h.1 k e).2
   omega
  exact ⟨offB_no.2 ⟨by omega,hne k hk1 b⟩,hg.block k hk1 (fun e=>b e.symm)⟩
theorem MemsOwnP.at {w:World} {B:Nat} {v:Value} {xs:List XM} (h:MemsOwnP w B v xs) (hne:xs≠[]) (hz:∀ x ∈ xs,x.name.size≤maxLen):MemsAt w v xs:=by
 rcases h.1.2 with ⟨_,h0⟩ | ⟨g,cap,cur,rfl,hB,hcl,hcp,_⟩
 ·exact absurd (List.length_eq_zero_iff.1 h0) hne
 ·have hcc:=World.ownsRow.cells h.1 (g:=g) rfl
  have hadd:∀ j,(⟨g,0,none⟩:Addr).add j=⟨g,j,none⟩:=fun j=>by unfold Addr.add;split <;> simp_all
  refine ⟨g,0,cap,rfl,fun i x hx j u hu=>?_,fun x hx=>⟨(h.2 x hx).imp fun p u hu=>?_,hz x hx⟩⟩
  ·have hj6:j<6:=by have:=(List.getElem?_eq_some_iff.1 hu).1;rwa [XM.cells_len] at this
   rw [show 0+i*6+j=i*6+j by omega,← hadd]
   exact hcc _ _ ((xmCells_get xs i x hx j hj6).trans hu)
  ·obtain ⟨-,q2,q3⟩:=(hidden_cell _ w p u).1 hu
   exact (hidden_cell _ w p u).2 ⟨rfl,q2,q3⟩
theorem ItemsOwn.keepW {w w':World} {B:Nat} {v:Value} {xs:List XI} (h:ItemsOwn w B v xs) (hb:Below w.heap.size w w'):ItemsOwn w' B v xs :=
 ⟨ownsRow_keep h.1 hb,fun x hx=>(h.2 x hx).carry fun k hk hP=>⟨hP,hb.block k hk⟩⟩
theorem asc_pairsX {l:List ByteArray} (h:ascB l=true):l.Pairwise (fun a b=>Op.bytesLess a.data.toList b.data.toList=true):=by
 rw [List.pairwise_iff_getElem]
 intro i j hi hj hij
 have:=asc_lt h hij hj
 rw [List.getD_eq_getElem?_getD,List.getD_eq_getElem?_getD,List.getElem?_eq_getElem hi,List.getElem?_eq_getElem hj,toList_data,toList_data] at this
 exact this
theorem mems_asc {xs:List XM} {l:List ByteArray} (h:ascB l=true) (he:xs.map XM.name=l):xs.Pairwise XLt:=by
 have:=asc_pairsX h
 rw [← he,List.pairwise_map] at this
 exact this
/-! How much there is. -/
theorem wt_textsJ {l:List ByteArray} {K n:Nat} (h:∀ s ∈ l,s.size≤K) (hn:l.length≤n):wt (textsJ l)≤4+n*(4+K):=by
 have h1:wtL (l.map textJ)≤l.length*(4+K):=by
  clear hn
  induction l with
  | nil=>exact Nat.zero_le _
  | cons s r ih =>
    have h2:=h s List.mem_cons_self
    have h3:=ih (fun x hx=>h x (List.mem_cons_of_mem _ hx))
    rw [List.map_cons,wtL,wt_eq]
    show 4+s.size+0+0+_≤_
    rw [List.length_cons,Nat.add_mul]
    omega
 have h2:l.length*(4+K)≤n*(4+K):=Nat.mul_le_mul_right _ hn
 rw [wt_eq]
 show 4+0+0+wtL (l.map textJ)≤_
 omega
theorem wtL_le {l:List JV} {K n:Nat} (h:∀ x ∈ l,wt x≤K) (hn:l.length≤n):wtL l≤n*K:=by
 have h1:wtL l≤l.length*K:=by
  clear hn
  induction l with
  | nil=>exact Nat.zero_le _
  | cons x r ih =>
    have h2:=h x List.mem_cons_self
    have h3:=ih (fun y hy=>h y (List.mem_cons_of_mem _ hy))
    rw [wtL,List.length_cons,Nat.add_mul]
    omega
 exact Nat.le_trans h1 (Nat.mul_le_mul_right _ hn)
theorem wtN_leC {l:List ByteArray} {K n:Nat} (h:∀ s ∈ l,s.size≤K) (hn:l.length≤n):wtN l≤n*(2+K):=by
 have h1:wtN l≤l.length*(2+K):=by
  clear hn
  unfold wtN
  induction l with
  | nil=>exact Nat.zero_le _
  | cons s r ih =>
    have h2:=h s List.mem_cons_self
    have h3:=ih (fun y hy=>h y (List.mem_cons_of_mem _ hy))
    rw [List.map_cons,List.sum_cons,List.length_cons,Nat.add_mul]
    omega
 exact Nat.le_trans h1 (Nat.mul_le_mul_right _ hn)
theorem writ_sz {s:ByteArray} (h:writ s=true):s.size≤4096:=by
 unfold writ at h
 rw [Bool.and_eq_true,decide_eq_true_eq] at h
 exact h.1
theorem may_bounds {M:MapP} (h:mayM M=true):(∀ r ∈ M.repos,r.1.size≤64∧r.2.length≤8∧wt (textsJ r.2)≤100000)∧(∀ x ∈ M.maps,x.paths.length≤32∧x.repos.length≤8∧wt (textsJ x.paths)≤100000∧wt (textsJ x.repos)≤100000∧wt (mapgJ x)≤1000000):=by
 obtain ⟨-,h2,-,-,h5,h6⟩:=mayM_parts h
 refine ⟨fun r hr=>?_,fun x hx=>?_⟩
 ·obtain ⟨a,b,c⟩:=h5 r hr
  have:=wt_textsJ (K:=4096) (fun s hs=>writ_sz (c s hs)) b
  exact ⟨(role_writ a).2,b,by omega⟩
 ·obtain ⟨-,p2,p3,-,p5,p6,-⟩:=wrongV_parts (h6 x hx)
  have hR:(namesR M.repos).length≤8:=by rw [namesR,List.length_map];exact h2
  have hr8:x.repos.length≤8:=by omega
  have k1:=wt_textsJ (K:=256) (fun s hs=>(path_writ (p3 s hs)).2) p2
  have k2:=wt_textsJ (l:=x.repos) (K:=64) (fun s hs=>by
   obtain ⟨r,hr,rfl⟩:=names_mem (p6 s hs)
   exact (role_writ (h5 r hr).1).2) hr8
  refine ⟨p2,hr8,by omega,by omega,?_⟩
  rw [wt_eq]
  show 4+0+wtN [tPaths,tRepos,tTerm,tThr]+wtL [textsJ x.paths,textsJ x.repos,boolJ x.term,numJ x.thr]≤_
  have k3:wtN [tPaths,tRepos,tTerm,tThr]≤100:=by decide
  have k4:wt (boolJ x.term)=4:=by rw [wt_eq];rfl
  have k5:wt (numJ x.thr)=4:=by rw [wt_eq];rfl
  simp only [wtL,k4,k5]
  omega
def cvaD (B tb:Nat) (sv:Value) (nm:ByteArray) (uv:Value) (V:JV) (k:Nat) (v:Value) (w:World):Prop :=
 match k with
 | 0=>v=sv
 | 1=>v=.pointer (some ⟨tb,0,none⟩)
 | 2=>v=.string nm
 | 3=>v=.pointer (some ⟨tb,1,none⟩)
 | 4=>v=uv
 | 5=>∃ y:VC,v=y.val∧NewV B w V y.val
 | 6=>∃ y:VC,v=.agg #[.string nm,.int .u8 y.k,.int .i64 y.n,.string y.t,.slice y.a y.l y.c,.slice y.b y.m y.e]∧NewV B w V y.val
 | 7=>∃ (b:Nat) (y:VC),v=.slice (some ⟨b,0,none⟩) 1 1∧NewV B w V y.val∧BlkAt w b 41 #[.string nm,.int .u8 y.k,.int .i64 y.n,.string y.t,.slice y.a y.l y.c,.slice y.b y.m y.e]
 | _=>True
theorem cvaD_keep {B tb:Nat} {sv:Value} {nm:ByteArray} {uv:Value} {V:JV}:∀ k v w w',cvaD B tb sv nm uv V k v w→Below w.heap.size w w'→cvaD B tb sv nm uv V k v w':=by
 intro k v w w' h hb
 unfold cvaD at h ⊢
 split at h <;> try exact h
 ·obtain ⟨y,h1,h2⟩:=h
  exact ⟨y,h1,h2.keepB hb⟩
 ·obtain ⟨y,h1,h2⟩:=h
  exact ⟨y,h1,h2.keepB hb⟩
 ·obtain ⟨b,y,h1,h2,h3⟩:=h
  exact ⟨b,y,h1,h2.keepB hb,BlkAt.keep h3 hb⟩
def cvbD (B _bb:Nat) (sv:Value) (z:VC) (L _R O:JV) (k:Nat) (v:Value) (w:World):Prop :=
 match k with
 | 0=>v=sv
 | 1=>∃ y:VC,v=y.val∧ValAt (pureW w) L y.val
 | 2=>∃ y:VC,v=.agg #[.string tMapping,.int .u8 y.k,.int .i64 y.n,.string y.t,.slice y.a y.l y.c,.slice y.b y.m y.e]∧ValAt (pureW w) L y.val
 | 3=>v=z.val
 | 4=>v=.agg #[.string tRepos,.int .u8 z.k,.int .i64 z.n,.string z.t,.slice z.a z.l z.c,.slice z.b z.m z.e]
 | 5=>∃ (b:Nat) (y:VC),v=.slice (some ⟨b,0,none⟩) 2 2∧ValAt (pureW w) L y.val∧BlkAt w b 41 #[.string tMapping,.int .u8 y.k,.int .i64 y.n,.string y.t,.slice y.a y.l y.c,.slice y.b y.m y.e,.string tRepos,.int .u8 z.k,.int .i64 z.n,.string z.t,.slice z.a z.l z.c,.slice z.b z.m z.e]
 | 6=>∃ y:VC,v=.tuple #[y.val,.int .i64 0]∧NewV B w O y.val
 | 7=>∃ y:VC,v=y.val∧NewV B w O y.val
 | 8=>v=.int .i64 0
 | _=>True
theorem cvbD_keep {B bb:Nat} {sv:Value} {z:VC} {L R O:JV}:∀ k v w w',cvbD B bb sv z L R O k v w→Below w.heap.size w w'→cvbD B bb sv z L R O k v w':=by
 intro k v w w' h hb
 unfold cvbD at h ⊢
 split at h <;> try exact h
 ·obtain ⟨y,h1,h2⟩:=h
  exact ⟨y,h1,h2.imp (pure_keep hb)⟩
 ·obtain ⟨y,h1,h2⟩:=h
  exact ⟨y,h1,h2.imp (pure_keep hb)⟩
 ·obtain ⟨b,y,h1,h2,h3⟩:=h
  exact ⟨b,y,h1,h2.imp (pure_keep hb),BlkAt.keep h3 hb⟩
 ·obtain ⟨y,h1,h2⟩:=h
  exact ⟨y,h1,h2.keepB hb⟩
 ·obtain ⟨y,h1,h2⟩:=h
  exact ⟨y,h1,h2.keepB hb⟩
def chartX (M:MapP) (p r:VC):List XM:=[⟨tMapping,p,listJ (M.maps.map mapgJ)⟩,⟨tRepos,r,reposJ M.repos⟩]
theorem objectOf_chart (M:MapP) (p r:VC) (b c:Nat) (w:World) (hm:mayM M=true) (hp:ValAt (pureW w) (listJ (M.maps.map mapgJ)) p.val) (hr:ValAt (pureW w) (reposJ M.repos) r.val)
 (hc:∀ j u,(xmCells (chartX M p r))[j]?=some u→w.cell? ⟨b,j,none⟩=some u) :
 Calls Tryz.prog 10 #[.slice (some ⟨b,0,none⟩) 2 c] w fun e w'=>∃ y:VC,e=.returned (.tuple #[y.val,.int .i64 0])∧Below w.heap.size w w'∧NewV w.heap.size w' (chartJ M) y.val:=by
 have hb:=may_bounds hm
 obtain ⟨-,h2,h3,-⟩:=mayM_parts hm
 rw [show chartJ M=objJ (chartX M p r) from rfl]
 refine objectOf_any (chartX M p r) _ w ⟨b,0,c,rfl,fun i y hy j u hu=>?_,fun y hy=>?_⟩ (by simp [chartX]) (by simp [chartX]) ?_ (fun y hy=>?_)
 ·refine hc _ _ ?_ |> fun h=>by rwa [Nat.zero_add]
  have hj6:j<6:=by have:=(List.getElem?_eq_some_iff.1 hu).1;rwa [XM.cells_len] at this
  rw [xmCells_get _ i y hy j hj6]
  exact hu
 ·simp only [chartX,List.mem_cons,List.not_mem_nil,or_false] at hy
  rcases hy with rfl | rfl
  ·exact ⟨hp,by show tMapping.size≤maxLen;decide⟩
  ·exact ⟨hr,by show tRepos.size≤maxLen;decide⟩
 ·unfold chartX XLt
  simp only [List.pairwise_cons,List.mem_cons,List.not_mem_nil,or_false,forall_eq,List.Pairwise.nil,and_true]
  refine ⟨?_,?_⟩ <;> first | kernel_rfl | simp
 ·simp only [chartX,List.mem_cons,List.not_mem_nil,or_false] at hy
  rcases hy with rfl | rfl
  ·show wt (listJ (M.maps.map mapgJ))≤_
   rw [wt_eq]
   show 4+0+0+wtL (M.maps.map mapgJ)≤_
   have:=wtL_le (l:=M.maps.map mapgJ) (K:=1000000) (n:=16) (fun y hy=>by
    obtain ⟨x,hx,rfl⟩:=List.mem_map.1 hy
    exact (hb.2 x hx).2.2.2.2) (by rw [List.length_map];exact h3)
   omega
  ·show wt (reposJ M.repos)≤_
   rw [wt_eq]
   show 4+0+wtN (namesR M.repos)+wtL (M.repos.map fun r=>textsJ r.2)≤_
   have k1:=wtL_le (l:=M.repos.map fun r=>textsJ r.2) (K:=100000) (n:=8) (fun y hy=>by
    obtain ⟨x,hx,rfl⟩:=List.mem_map.1 hy
    exact (hb.1 x hx).2.2) (by rw [List.length_map];exact h2)
   have k2:=wtN_leC (l:=namesR M.repos) (K:=64) (n:=8) (fun s hs=>by
    obtain ⟨r,hr,rfl⟩:=names_mem hs
    exact (hb.1 r hr).1) (by rw [namesR,List.length_map];exact h2)
   omega
theorem cValue_any (M:MapP) (v:Value) (w:World) (h:MapAt w v M) :
 Calls Tryz.prog 8 #[v] w fun e w'=>Below w.heap.size w w'∧((mayM M=false∧e=.returned (.tuple #[.agg #[.int .u8 0,.int .i64 0,.string ⟨#[]⟩,.slice none 0 0,.slice none 0 0],.int .i64 3]))∨(mayM M=true∧∃ y:VC,e=.returned (.tuple #[y.val,.int .i64 0])∧NewV w.heap.size w' (chartJ M) y.val)):=by
 have HMH:=Lib.hid h
 obtain ⟨a1,c1,a2,c2,rfl,hr,hm⟩:=h.parts
 obtain ⟨ra',rc',e0,-,hrc⟩:=hr.at
 simp only [Value.slice.injEq,true_and] at e0
 obtain ⟨rfl,rfl⟩:=e0
 obtain ⟨ma',mc',e1,-,hmc⟩:=hm.at
 simp only [Value.slice.injEq,true_and] at e1
 obtain ⟨rfl,rfl⟩:=e1
 obtain ⟨rs,hrs⟩:∃ x,M.repos=x:=⟨_,rfl⟩
 obtain ⟨ms,hms⟩:∃ x,M.maps=x:=⟨_,rfl⟩
 obtain ⟨n1,hn1⟩:∃ n,rs.length=n:=⟨_,rfl⟩
 obtain ⟨n2,hn2⟩:∃ n,ms.length=n:=⟨_,rfl⟩
 rw [hrs] at hr hrc HMH ⊢
 rw [hms] at hm hmc HMH ⊢
 rw [hn1] at HMH ⊢
 rw [hn2] at HMH ⊢
 obtain ⟨W,hW⟩:∃ y,y=(w.alloc (.cells #[.slice a1 n1 c1,.slice a2 n2 c2] 25)).alloc (.cells #[.int .u8 0,.int .i64 0,.string ⟨#[]⟩,.slice none 0 0,.slice none 0 0] 29):=⟨_,rfl⟩
 have hbW:Below w.heap.size w W:=by rw [hW];exact bel_alloc (bel_alloc (Below.refl _ _) _) _
 have hK0:BlkAt W w.heap.size 25 #[.slice a1 n1 c1,.slice a2 n2 c2]:=by rw [hW];exact (blkAt_new w _ _).alloc _
 have hK1:BlkAt W (w.heap.size+1) 29 #[.int .u8 0,.int .i64 0,.string ⟨#[]⟩,.slice none 0 0,.slice none 0 0]:=by
  rw [hW]
  have:=blkAt_new (w.alloc (.cells #[.slice a1 n1 c1,.slice a2 n2 c2] 25)) #[.int .u8 0,.int .i64 0,.string ⟨#[]⟩,.slice none 0 0,.slice none 0 0] 29
  rwa [size_al] at this
 have hsW:W.heap.size=w.heap.size+2:=by rw [hW,size_al,size_al]
 have HMAY:=Lib.hid (fun Y (hb:Below w.heap.size w Y)=>cMay_any M _ Y (HMH.out.keep hb))
 obtain ⟨mb,hmb⟩:∃ b,mayM M=b:=⟨_,rfl⟩
 rw [hmb] at HMAY ⊢
 have HK0:=Lib.hid hK0
 have HK1:=Lib.hid hK1
 have HBW:=Lib.hid hbW
 have HSW:=Lib.hid hsW
 have HW:=Lib.hid hW
 have HRC:=Lib.hid hrc
 have HMC:=Lib.hid hmc
 have HN1:=Lib.hid hn1
 have HN2:=Lib.hid hn2
 have HRS:=Lib.hid hrs
 have HMS:=Lib.hid hms
 have HMB:=Lib.hid hmb
 obtain ⟨i0,hi,hz0,hz1,hz2⟩:=info_parts infoVal
 have HI:=Lib.hid hi
 have HZ0:=Lib.hid hz0
 have HZ1:=Lib.hid hz1
 have HZ2:=Lib.hid hz2
 obtain ⟨j0,hj,hy0,hy1,hy2⟩:=info_parts infoPM
 have HJ:=Lib.hid hj
 have HY0:=Lib.hid hy0
 have HY1:=Lib.hid hy1
 have HY2:=Lib.hid hy2
 obtain ⟨k0,k1,kf⟩:=b2 HK0.out
 clear hr hm hrc hmc hn1 hn2 hrs hms hmb hK0 hK1 hbW hsW hW hi hz0 hz1 hz2 hj hy0 hy1 hy2 HMH
 go_enter Tryz.func8,Tryz.ntmps8
 go_wp2_with fail
 rw [← HW.out]
 refine (HMAY.out _ HBW.out).mono ?_
 rintro e w1 ⟨rfl,hb1⟩
 have HB1:=Lib.hid (below_more HBW.out hb1)
 have HL0:=Lib.hid (BlkAt.keep HK0.out hb1)
 have HL1:=Lib.hid (BlkAt.keep HK1.out hb1)
 have hs1:w.heap.size+2≤w1.heap.size:=by have:=hb1.size;have:=HSW.out;omega
 obtain ⟨k0,k1,kf⟩:=b2 HL0.out
 obtain ⟨z0,z1,z2,z3,z4,zf⟩:=b5 HL1.out
 clear hb1 HMAY HW
 cases mb with
 | false =>
   have HB5:=Lib.hid (bset5 HB1.out (Nat.le_succ _) (.int .u8 0) (.int .i64 0) (.string ⟨#[]⟩) (.slice none 0 0) (.slice none 0 0))
   have HR5:=Lib.hid (blk_set5 HL1.out (.int .u8 0) (.int .i64 0) (.string ⟨#[]⟩) (.slice none 0 0) (.slice none 0 0))
   obtain ⟨q0,q1,q2,q3,q4,-⟩:=b5 HR5.out
   go_wp2_with fail
   exact bodyPost_ret (v:=.tuple #[.agg #[.int .u8 0,.int .i64 0,.string ⟨#[]⟩,.slice none 0 0,.slice none 0 0],.int .i64 3]) (by simp [results,Tryz.results8,go_sem,q0,q1,q2,q3,q4]) rfl ⟨HB5.out,by first | rfl | exact Or.inl ⟨rfl,rfl⟩⟩
 | true =>
   have hbd:=may_bounds HMB.out
   have hpt:=mayM_parts HMB.out
   rw [HRS.out,HMS.out] at hbd hpt
   obtain ⟨m1,m2,m3,m4,-,m6⟩:=hpt
   rw [HN1.out] at m1 m2
   rw [HN2.out] at m3
   have HBD:=Lib.hid hbd
   have HAS:=Lib.hid m4
   clear hbd m4 m6 z0 z1 z2 z3 z4 zf
   go_wp2_with fail
   go_loopw [4,21] (fun vl i wr=>∃ (j:Nat) (xs:List XM) (ia:Option Addr) (ic:Nat),j≤n1∧i=.int .i64 j∧vl=.slice ia j ic∧xs.length=j∧Hid (xs.map (fun x=>(x.name,x.V))=(rs.take j).map fun r=>(r.1,textsJ r.2))∧Hid (MemsOwnP wr w1.heap.size (.slice ia j ic) xs)∧Hid (Below w1.heap.size w1 wr)) (fun _ i _=>n1 - (intOf i).toNat)
   case atStart=>exact ⟨0,[],none,0,by omega,rfl,rfl,rfl,rfl,MemsOwnP.nil _ _,Below.refl _ _⟩
   case round =>
    obtain ⟨j,xs,ia,ic,hj,rfl,rfl,hxs,HXS,HO,HB⟩:=hrel
    have l0:=cell_keep HB.out k0
    have l1:=cell_keep HB.out k1
    by_cases hjn:j<n1
    ·obtain ⟨r,hr⟩:∃ s,rs[j]?=some s:=⟨_,List.getElem?_eq_getElem (by rw [HN1.out];exact hjn)⟩
     obtain ⟨xb,xo,ua,uc,rfl,t0,t1,hsz,s1⟩:=HRC.out j r hr
     have hbr:=HBD.out.1 r (List.mem_of_getElem? hr)
     obtain ⟨nm,us⟩:=r
     simp only at t0 t1 hsz s1 hbr
     obtain ⟨ul,hul⟩:∃ z,us.length=z:=⟨_,rfl⟩
     rw [hul] at t1 s1 hbr
     have HBr:=Lib.hid (below_more HB1.out HB.out)
     have t0:=cell_keep HBr.out t0
     have t1:=cell_keep HBr.out t1
     have i0':(0:Int)≤(j:Int):=by omega
     have i1':(j:Int)<(n1:Int):=by omega
     have HS1:=Lib.hid s1
     have HR:=Lib.hid hr
     have HUL:=Lib.hid hul
     clear hr hul s1
     go_wp2_with fail
     have hba:Below wr.heap.size wr (wr.alloc (.cells #[.string nm,.slice ua ul uc] 48)):=bel_alloc (Below.refl _ _) _
     have HT1:Hid (BlkAt (wr.alloc (.cells #[.string nm,.slice ua ul uc] 48)) wr.heap.size 48 #[.string nm,.slice ua ul uc]):=blkAt_new wr _ _
     have HQ:=Lib.hid hba
     have HO2:=Lib.hid (HO.out.keep hba)
     have hsa:=size_al wr (.cells #[.string nm,.slice ua ul uc] 48)
     clear hba
     generalize wr.alloc (.cells #[.string nm,.slice ua ul uc] 48)=w2 at HT1 HQ HO2 hsa ⊢
     have HB2:=Lib.hid (below_more HB.out HQ.out)
     have HTX:Hid (∀ Y,Below w2.heap.size w2 Y→Calls Tryz.prog 14 #[.slice ua ul uc] Y fun e w'=>∃ y:VC,e=.returned y.val∧Below Y.heap.size Y w'∧NewV Y.heap.size w' (textsJ us) y.val):=fun Y hY=>textsOf_any us _ Y (HS1.out.keep (below_more (below_more HBr.out HQ.out) hY)) (by rw [HUL.out];omega)
     obtain ⟨tb,htb⟩:∃ z,wr.heap.size=z:=⟨_,rfl⟩
     rw [htb] at HT1 hsa ⊢
     obtain ⟨u0,u1,uf⟩:=b2 HT1.out
     have hw1r:w1.heap.size≤tb:=by rw [← htb];exact HB.out.size
     have HTB:=Lib.hid htb
     clear htb t0 t1
     refine wp_region_any (by kernel_rfl) ?_
     refine wpAny_puts [(0,some 25),(1,some 26),(2,some 27),(3,some 28),(4,some 29),(5,some 30),(6,some 31),(7,some 32)] 8 [9] (by kernel_rfl) (by kernel_rfl) (of_decide_eq_true (by kernel_rfl)) (fun w'=>Below w2.heap.size w2 w') (cvaD w2.heap.size tb (.slice ia j ic) nm (.slice ua ul uc) (textsJ us)) cvaD_keep (bel_drew (Below.refl _ _)) ?_ ?_
     ·
      refine PutSteps.at rfl (fun vs Y hG hdep K hK=>?_) ?_
      ·simp only [putsOf,pqA,pqB,Act.put,pqC,pqD,pqE] at hK ⊢
       go_simp
       exact hK.out (.slice ia j ic) _ _ rfl hG (Below.refl _ _) rfl
      refine PutSteps.at rfl (fun vs Y hG hdep K hK=>?_) ?_
      ·simp only [putsOf,pqA,pqB,Act.put,pqC,pqD,pqE] at hK ⊢
       go_simp
       exact hK.out (.pointer (some ⟨tb,0,none⟩)) _ _ rfl hG (Below.refl _ _) rfl
      refine PutSteps.at rfl (fun vs Y hG hdep K hK=>?_) ?_
      ·have e0:vs 1=.pointer (some ⟨tb,0,none⟩):=hdep 1 rfl (by kernel_rfl)
       have y0:=cell_keep hG u0
       simp only [putsOf,pqA,pqB,Act.put,pqC,pqD,pqE] at hK ⊢
       rw [e0] at hK ⊢
       go_simp
       exact hK.out (.string nm) _ _ rfl hG (Below.refl _ _) rfl
      refine PutSteps.at rfl (fun vs Y hG hdep K hK=>?_) ?_
      ·simp only [putsOf,pqA,pqB,Act.put,pqC,pqD,pqE] at hK ⊢
       go_simp
       exact hK.out (.pointer (some ⟨tb,1,none⟩)) _ _ rfl hG (Below.refl _ _) rfl
      refine PutSteps.at rfl (fun vs Y hG hdep K hK=>?_) ?_
      ·have e0:vs 3=.pointer (some ⟨tb,1,none⟩):=hdep 3 rfl (by kernel_rfl)
       have y0:=cell_keep hG u1
       simp only [putsOf,pqA,pqB,Act.put,pqC,pqD,pqE] at hK ⊢
       rw [e0] at hK ⊢
       go_simp
       exact hK.out (.slice ua ul uc) _ _ rfl hG (Below.refl _ _) rfl
      refine PutSteps.at rfl (fun vs Y hG hdep K hK=>?_) ?_
      ·have e0:vs 4=.slice ua ul uc:=hdep 4 rfl (by kernel_rfl)
       simp only [putsOf,pqA,pqB,Act.put,pqC,pqD,pqE] at hK ⊢
       rw [e0] at hK ⊢
       go_simp
       refine (HTX.out _ hG).mono ?_
       rintro e w4 ⟨⟨yk,yn,yt,ya,yl,yc,yb,ym,ye⟩,rfl,hb4,hv4⟩
       exact hK.out (.agg #[.int .u8 yk,.int .i64 yn,.string yt,.slice ya yl yc,.slice yb ym ye]) _ _ rfl (below_more hG hb4) hb4 ⟨⟨yk,yn,yt,ya,yl,yc,yb,ym,ye⟩,rfl,NewV.low hv4 hG.size⟩
      refine PutSteps.at rfl (fun vs Y hG hdep K hK=>?_) ?_
      ·have e1:vs 2=.string nm:=hdep 2 rfl (by kernel_rfl)
       obtain ⟨⟨yk,yn,yt,ya,yl,yc,yb,ym,ye⟩,e0,hv⟩:=show ∃ y:VC,vs 5=y.val∧NewV w2.heap.size Y (textsJ us) y.val from hdep 5 rfl (by kernel_rfl)
       simp only [VC.val] at e0
       simp only [putsOf,pqA,pqB,Act.put,pqC,pqD,pqE] at hK ⊢
       rw [e0,e1] at hK ⊢
       go_simp
       exact hK.out (.agg #[.string nm,.int .u8 yk,.int .i64 yn,.string yt,.slice ya yl yc,.slice yb ym ye]) _ _ rfl hG (Below.refl _ _) ⟨⟨yk,yn,yt,ya,yl,yc,yb,ym,ye⟩,rfl,hv⟩
      refine PutSteps.at rfl (fun vs Y hG hdep K hK=>?_) PutSteps.nil
      ·obtain ⟨⟨yk,yn,yt,ya,yl,yc,yb,ym,ye⟩,e0,hv⟩:=show ∃ y:VC,vs 6=.agg #[.string nm,.int .u8 y.k,.int .i64 y.n,.string y.t,.slice y.a y.l y.c,.slice y.b y.m y.e]∧NewV w2.heap.size Y (textsJ us) y.val from hdep 6 rfl (by kernel_rfl)
       simp only at e0
       simp only [putsOf,pqA,pqB,Act.put,pqC,pqD,pqE] at hK ⊢
       rw [e0] at hK ⊢
       go_simp
       exact hK.out (.slice (some ⟨Y.heap.size,0,none⟩) 1 1) _ _ rfl (bel_alloc hG _) (bel_alloc (Below.refl _ _) _) ⟨Y.heap.size,⟨yk,yn,yt,ya,yl,yc,yb,ym,ye⟩,rfl,hv.keepB (bel_alloc (Below.refl _ _) _),blkAt_newC _ _ _⟩
     ·intro vs Y hG hdep
      have e0:vs 0=.slice ia j ic:=hdep 0 rfl
      obtain ⟨bb,⟨yk,yn,yt,ya,yl,yc,yb,ym,ye⟩,e7,hv7,hB7⟩:=show ∃ (b:Nat) (y:VC),vs 7=.slice (some ⟨b,0,none⟩) 1 1∧NewV w2.heap.size Y (textsJ us) y.val∧BlkAt Y b 41 #[.string nm,.int .u8 y.k,.int .i64 y.n,.string y.t,.slice y.a y.l y.c,.slice y.b y.m y.e] from hdep 7 rfl
      simp only [putsOf,pqA,pqB,Act.put,pqC,pqD,pqE]
      simp only [List.filterMap_cons,List.filterMap_nil,nthO]
      rw [e0,e7]
      have hoY:=(HO2.out.keep hG).1
      rw [hxs] at hoY
      have hsY:=hG.size
      have hj8:j≤8:=by omega
      refine wpList_step fun K hK=>?_
      refine step_append_lies Y rfl _ _ _ rfl w1.heap.size 41 j0 _ 6 96 Tryz.underlying37 HJ.out HY0.out HY1.out HY2.out rfl (by decide) (.slice ia j ic) j (xmCells xs) rfl hoY ⟨bb,0,none⟩ 1 1 [.string nm,.int .u8 yk,.int .i64 yn,.string yt,.slice ya yl yc,.slice yb ym ye] rfl rfl (World.news_of_block (fr:=(0,0)) hB7) (by intro u hu;simp only [List.mem_cons,List.not_mem_nil,or_false] at hu;rcases hu with rfl | rfl | rfl | rfl | rfl | rfl <;> rfl) (by decide) (by unfold maxLen;omega) (by omega) (by omega) Y.heap.size rfl ?_
      intro gg cp' w6 hown6 hgrow hat hlt
      refine hK _ _ ?_
      have hrY:Below wr.heap.size wr Y:=below_more HQ.out hG
      have hI8:=Lib.hid (MemsOwnP.snoc (v':=.slice (some ⟨gg,0,none⟩) (j+1) cp') (nm:=nm) (x:=⟨yk,yn,yt,ya,yl,yc,yb,ym,ye⟩) (V:=textsJ us) HO.out (NewV.low hv7 HQ.out.size) HB.out.size hrY (hat.elim (fun e=>Or.inl e.symm) (fun e=>Or.inr (by rw [e];rfl))) (by rw [hxs];exact hown6) hgrow)
      have hB8:Hid (Below w1.heap.size w1 w6):=(below_more HB.out hrY).grown hgrow (by have:=HB.out.size;have:=hrY.size;omega) (fun k hk=>(World.ownsRow.lt HO.out.1 k hk).1)
      have hX8:Hid ((xs++[(⟨nm,⟨yk,yn,yt,ya,yl,yc,yb,ym,ye⟩,textsJ us⟩:XM)]).map (fun x=>(x.name,x.V))=(rs.take (j+1)).map fun r=>(r.1,textsJ r.2)):=by
       show _=_
       rw [List.map_append,HXS.out,List.take_add_one,HR.out]
       simp
      clear hown6 hgrow hat hlt hdep hv7 hB7 e0 e7 hoY hrY
      refine wpList_plain rfl fun K hK=>?_
      go_simp
      refine hK _ _ ?_
      refine wpList_nil ?_
      go_wp2_with fail
      exact ⟨⟨j+1,_,some ⟨gg,0,none⟩,cp',by omega,by go_num,rfl,by rw [List.length_append,hxs];rfl,hX8,hI8,hB8⟩,by simp [intOf];omega⟩
    ·obtain rfl:j=n1:=by omega
     have i1':¬ (j:Int)<(j:Int):=by omega
     have hxa:xs.map (fun x=>(x.name,x.V))=rs.map fun r=>(r.1,textsJ r.2):=by
      have:=HXS.out
      rwa [List.take_of_length_le (by rw [HN1.out];exact Nat.le_refl _)] at this
     have hxn:xs.map XM.name=namesR rs:=by
      have:=congrArg (List.map Prod.fst) hxa
      rw [List.map_map,List.map_map] at this
      exact this
     have hxv:xs.map XM.V=rs.map fun r=>textsJ r.2:=by
      have:=congrArg (List.map Prod.snd) hxa
      rw [List.map_map,List.map_map] at this
      exact this
     have hne:xs≠[]:=fun e=>by rw [e] at hxs;simp at hxs;omega
     have hin:∀ x ∈ xs,x.name.size≤maxLen∧wt x.V≤1000000000:=fun x hx=>by
      have h1:(x.name,x.V) ∈ xs.map (fun x=>(x.name,x.V)):=List.mem_map.2 ⟨x,hx,rfl⟩
      rw [hxa] at h1
      obtain ⟨r,hr,e⟩:=List.mem_map.1 h1
      have h2:=HBD.out.1 r hr
      simp only [Prod.mk.injEq] at e
      rw [← e.1,← e.2]
      unfold maxLen
      omega
     have HOB:=Lib.hid (objectOf_any xs (.slice ia j ic) wr (HO.out.at hne (fun x hx=>(hin x hx).1)) hne (by omega) (mems_asc HAS.out hxn) (fun x hx=>(hin x hx).2))
     rw [show objJ xs=reposJ rs from by unfold objJ reposJ;rw [hxn,hxv]] at HOB
     clear hxa hxn hxv hne hin HXS HO
     go_wp2_with fail
     refine HOB.out.mono ?_
     rintro e w3 ⟨⟨rk,rn,rt,ra,rl,rc,rb,rm,re⟩,rfl,hb3,hv3⟩
     simp only [VC.val]
     clear HOB
     obtain ⟨w4,hw4⟩:∃ y,y=w3.alloc (.cells #[.int .u8 rk,.int .i64 rn,.string rt,.slice ra rl rc,.slice rb rm re] 29):=⟨_,rfl⟩
     have hba:Below w3.heap.size w3 w4:=by rw [hw4];exact bel_alloc (Below.refl _ _) _
     have HK2:Hid (BlkAt w4 w3.heap.size 29 #[.int .u8 rk,.int .i64 rn,.string rt,.slice ra rl rc,.slice rb rm re]):=by rw [hw4];exact blkAt_new w3 _ _
     have HV2:Hid (ValAt (pureW w4) (reposJ rs) (VC.val ⟨rk,rn,rt,ra,rl,rc,rb,rm,re⟩)):=valOf_pure hv3 hba
     have HB4:=Lib.hid (below_more (below_more HB.out hb3) hba)
     have hs4:w.heap.size+2≤w4.heap.size:=Nat.le_trans hs1 HB4.out.size
     have HW4:=Lib.hid hw4
     clear l0 l1
     have l0:=cell_keep HB4.out k0
     have l1:=cell_keep HB4.out k1
     rw [HW4.out] at l0 l1
     clear hba hb3 hv3 HB hw4
     go_wp2_with fail
     rw [← HW4.out] at l0 l1 ⊢
     obtain ⟨rbk,hrb⟩:∃ z,w3.heap.size=z:=⟨_,rfl⟩
     rw [hrb] at HK2 ⊢
     clear hrb HW4
     go_loopw [9,47] (fun vl i wr=>∃ (f:Nat) (xs:List XI) (ia:Option Addr) (ic:Nat),f≤n2∧i=.int .i64 f∧vl=.slice ia f ic∧xs.length=f∧Hid (xs.map Prod.snd=(ms.take f).map mapgJ)∧Hid (ItemsOwn wr w4.heap.size (.slice ia f ic) xs)∧Hid (Below w4.heap.size w4 wr)) (fun _ i _=>n2 - (intOf i).toNat)
     case atStart=>exact ⟨0,[],none,0,by omega,rfl,rfl,rfl,rfl,ItemsOwn.nil _ _,Below.refl _ _⟩
     case round =>
      obtain ⟨f,ys,va,vc,hf,rfl,rfl,hys,HYS,HIr,HBf⟩:=hrel
      have l0:=cell_keep HBf.out l0
      have l1:=cell_keep HBf.out l1
      by_cases hfn:f<n2
      ·obtain ⟨x,hx⟩:∃ s,ms[f]?=some s:=⟨_,List.getElem?_eq_getElem (by rw [HN2.out];exact hfn)⟩
       obtain ⟨xb,xo,b1,d1,b2',d2,rfl,p0,p1,p2,p3,-,-,hpx⟩:=HMC.out f x hx
       have hbx:=HBD.out.2 x (List.mem_of_getElem? hx)
       have HBr:=Lib.hid (below_more (below_more HB1.out HB4.out) HBf.out)
       have p0:=cell_keep HBr.out p0
       have p1:=cell_keep HBr.out p1
       have p2:=cell_keep HBr.out p2
       have p3:=cell_keep HBr.out p3
       have i0':(0:Int)≤(f:Int):=by omega
       have i1'':(f:Int)<(n2:Int):=by omega
       obtain ⟨n3,hn3⟩:∃ z,x.paths.length=z:=⟨_,rfl⟩
       obtain ⟨n4,hn4⟩:∃ z,x.repos.length=z:=⟨_,rfl⟩
       have HVO:=Lib.hid (fun Y (hb:Below w.heap.size w Y)=>valueOf_any x _ Y (hpx.keep hb) (by omega) (by omega) (by omega) (by omega))
       rw [hn3,hn4] at HVO
       rw [hn3] at p0
       rw [hn4] at p1
       obtain ⟨bt,hbt⟩:∃ z,x.term=z:=⟨_,rfl⟩
       obtain ⟨th,hth⟩:∃ z,x.thr=z:=⟨_,rfl⟩
       rw [hbt] at p2 HVO
       rw [hth] at p3 HVO
       have HX:=Lib.hid hx
       obtain ⟨w5,hw5⟩:∃ y,y=wr.alloc (.cells #[.slice b1 n3 d1,.slice b2' n4 d2,.bool bt,.int .i64 th] 55):=⟨_,rfl⟩
       have hb5:Below wr.heap.size wr w5:=by rw [hw5];exact bel_alloc (Below.refl _ _) _
       have HX5:Hid (BlkAt w5 wr.heap.size 55 #[.slice b1 n3 d1,.slice b2' n4 d2,.bool bt,.int .i64 th]):=by rw [hw5];exact blkAt_new wr _ _
       have HB5:=Lib.hid hb5
       have HW5:=Lib.hid hw5
       obtain ⟨x0,x1,x2,x3,xf⟩:=b4' HX5.out
       rw [HW5.out] at x0 x1 x2 x3 xf
       clear hx hpx hbx hn3 hn4 hbt hth hb5 hw5
       go_wp2_with fail
       rw [← HW5.out]
       refine (HVO.out _ (below_more HBr.out HB5.out)).mono ?_
       rintro e w6 ⟨⟨yk,yn,yt,ya,yl,yc,yb,ym,ye⟩,rfl,hb6,hv6⟩
       simp only [VC.val]
       obtain ⟨w7,hw7⟩:∃ y,y=w6.alloc (.cells #[.int .u8 yk,.int .i64 yn,.string yt,.slice ya yl yc,.slice yb ym ye] 29):=⟨_,rfl⟩
       have hb7:Below w6.heap.size w6 w7:=by rw [hw7];exact bel_alloc (Below.refl _ _) _
       have hs7:w7.heap.size=w6.heap.size+1:=by rw [hw7,size_al]
       have HX7:Hid (BlkAt w7 w6.heap.size 29 #[.int .u8 yk,.int .i64 yn,.string yt,.slice ya yl yc,.slice yb ym ye]):=by rw [hw7];exact blkAt_new w6 _ _
       have HW7:=Lib.hid hw7
       obtain ⟨v0,v1,v2,v3,v4,vf⟩:=b5 HX7.out
       rw [HW7.out] at v0 v1 v2 v3 v4 vf
       have HB7:=Lib.hid (below_more (below_more HB5.out hb6) hb7)
       have HNV:=Lib.hid (NewV.low (hv6.keepB hb7) HB5.out.size)
       have hO7:=(ItemsOwn.keepW HIr.out HB7.out).1
       rw [hys] at hO7
       have hsz7:w4.heap.size≤w7.heap.size:=Nat.le_trans HBf.out.size HB7.out.size
       have hnc:∀ j u,([.int .u8 yk,.int .i64 yn,.string yt,.slice ya yl yc,.slice yb ym ye]:List Value)[j]?=some u→(w7.alloc (.cells #[.int .u8 yk,.int .i64 yn,.string yt,.slice ya yl yc,.slice yb ym ye] 29)).cell? ((⟨w7.heap.size,0,none⟩:Addr).add j)=some u:=fun j u hj=>by
        have hadd:(⟨w7.heap.size,0,none⟩:Addr).add j=⟨w7.heap.size,j,none⟩:=by unfold Addr.add;split <;> simp_all
        rw [hadd,cell_al_eq _ _ _ _ _ rfl]
        simpa using hj
       have hone:∀ u ∈ ([.int .u8 yk,.int .i64 yn,.string yt,.slice ya yl yc,.slice yb ym ye]:List Value),u.oneCell'=true:=fun u hu=>by
        simp only [List.mem_cons,List.not_mem_nil,or_false] at hu
        rcases hu with rfl | rfl | rfl | rfl | rfl <;> rfl
       have HNC:=Lib.hid hnc
       have HONE:=Lib.hid hone
       have HM1:Hid (f+1≤maxLen):=by show _≤_;unfold maxLen;omega
       have HM2:Hid ((f+1)*80≤140737488355328):=by show _≤_;omega
       have HM3:Hid (w4.heap.size≤(w7.alloc (.cells #[.int .u8 yk,.int .i64 yn,.string yt,.slice ya yl yc,.slice yb ym ye] 29)).heap.size):=by show _≤_;rw [size_al];omega
       have HO7:=Lib.hid (World.ownsRow.alloc hO7 (.cells #[.int .u8 yk,.int .i64 yn,.string yt,.slice ya yl yc,.slice yb ym ye] 29))
       rw [HW7.out] at HNC HM3 HO7
       rw [size_al] at HNC
       clear hb6 hb7 hw7 hv6 hnc hone hO7 x0 x1 x2 x3 xf p0 p1 p2 p3 HVO
       go_wp2_with (at_builtin;refine wpList_append_own_at _ rfl _ _ 27 rfl w4.heap.size 29 i0 (.agg #[.int .u8 0,.int .i64 0,.string ⟨#[]⟩,.slice none 0 0,.slice none 0 0]) 5 80 Tryz.underlying27 HI.out HZ0.out HZ1.out HZ2.out rfl (by decide) _ _ _ rfl HO7.out ⟨_,0,none⟩ 1 1 [.int .u8 yk,.int .i64 yn,.string yt,.slice ya yl yc,.slice yb ym ye] rfl rfl HNC.out HONE.out HM1.out HM2.out HM3.out ?_)
       intro v' w9 hown9 hgrow9 _ hat9
       obtain ⟨g9,p9,rfl,hg9,hg9'⟩:=World.ownsRow.form hown9 (by omega)
       rw [← HW7.out] at hgrow9
       have hI9:Hid (ItemsOwn w9 w4.heap.size (.slice (some ⟨g9,0,none⟩) (f+1) p9) (ys++[(⟨yk,yn,yt,ya,yl,yc,yb,ym,ye⟩,mapgJ x)])):=by
        refine ItemsOwn.snoc HIr.out HNV.out HBf.out.size HB7.out.size (hat9.imp id (fun e=>⟨_,e,by first | omega | (rw [size_al];omega) | (simp only [size_al];omega)⟩)) (by rw [hys];exact hown9) (fun k hk _ hne=>(hgrow9.block k (by rw [size_al];omega) (fun e=>hne e.symm)).trans ((bel_alloc (Below.refl _ _) _).block k hk)) (fun k hk _=>HB7.out.block k hk)
       have hB9:Hid (Below w4.heap.size w4 w9):=(bel_alloc (below_more HBf.out HB7.out) _).grown hgrow9 (by rw [size_al];omega) (fun k hk=>(World.ownsRow.lt HIr.out.1 k hk).1)
       have hX9:Hid ((ys++[((⟨yk,yn,yt,ya,yl,yc,yb,ym,ye⟩:VC),mapgJ x)]).map Prod.snd=(ms.take (f+1)).map mapgJ):=by
        show _=_
        rw [List.map_append,HYS.out,List.take_add_one,HX.out]
        simp
       clear hown9 hgrow9 hat9 HO7 HNC HONE HM1 HM2 HM3 v0 v1 v2 v3 v4 vf HIr HX7
       go_wp2_with fail
       exact ⟨⟨f+1,_,some ⟨g9,0,none⟩,p9,by omega,by go_num,rfl,by rw [List.length_append,hys];rfl,hX9,hI9,hB9⟩,by simp [intOf];omega⟩
      ·obtain rfl:f=n2:=by omega
       have i1'':¬ (f:Int)<(f:Int):=by omega
       have hyv:ys.map Prod.snd=ms.map mapgJ:=by
        have:=HYS.out
        rwa [List.take_of_length_le (by rw [HN2.out];exact Nat.le_refl _)] at this
       have hitm:ItemsAt (pureW wr) (.slice va f vc) (ms.map mapgJ):=by
        have h1:=HIr.out.out (by omega)
        rw [hyv] at h1
        exact h1.imp fun p u hu=>by
         obtain ⟨-,q2,q3⟩:=(hidden_cell _ wr p u).1 hu
         exact (hidden_cell _ wr p u).2 ⟨rfl,q2,q3⟩
       have HLO:=Lib.hid (fun Y (hb:Below wr.heap.size wr Y)=>listOf_any (ms.map mapgJ) (.slice va f vc) Y (hitm.imp (pure_keep hb)) (by rw [List.length_map,HN2.out];omega) (fun y hy=>by
        obtain ⟨x,hx,rfl⟩:=List.mem_map.1 hy
        have:=(HBD.out.2 x hx).2.2.2.2
        omega))
       have HBr:=Lib.hid (below_more (below_more HB1.out HB4.out) HBf.out)
       have HRb:=Lib.hid (BlkAt.keep HK2.out HBf.out)
       have HRv:=Lib.hid (HV2.out.imp (pure_keep HBf.out))
       have HRes:=Lib.hid (BlkAt.keep HL1.out (below_more HB4.out HBf.out))
       obtain ⟨r0,r1,r2,r3,r4,rf⟩:=b5 HRb.out
       have hsr:w.heap.size+2≤wr.heap.size:=Nat.le_trans hs4 HBf.out.size
       have HOB:=Lib.hid (fun p q b c Y hp hr hc=>objectOf_chart M p q b c Y HMB.out hp hr hc)
       rw [HMS.out,HRS.out] at HOB
       unfold chartX at HOB
       rw [HMS.out,HRS.out] at HOB
       clear hyv hitm HIr HYS
       go_wp2_with fail
       refine wp_region_any (by kernel_rfl) ?_
       refine wpAny_puts [(0,some 65),(1,some 66),(2,some 67),(3,some 68),(4,some 69),(5,some 70),(6,some 71),(7,some 72),(8,some 73)] 9 [10] (by kernel_rfl) (by kernel_rfl) (of_decide_eq_true (by kernel_rfl)) (fun w'=>Below wr.heap.size wr w') (cvbD (w.heap.size+2) rbk (.slice va f vc) ⟨rk,rn,rt,ra,rl,rc,rb,rm,re⟩ (listJ (ms.map mapgJ)) (reposJ rs) (chartJ M)) cvbD_keep (bel_drew (Below.refl _ _)) ?_ ?_
       ·
        refine PutSteps.at rfl (fun vs Y hG hdep K hK=>?_) ?_
        ·simp only [putsOf,pqA,pqB,Act.put,pqC,pqD,pqE] at hK ⊢
         go_simp
         exact hK.out (.slice va f vc) _ _ rfl hG (Below.refl _ _) rfl
        refine PutSteps.at rfl (fun vs Y hG hdep K hK=>?_) ?_
        ·have e0:vs 0=.slice va f vc:=hdep 0 rfl (by kernel_rfl)
         simp only [putsOf,pqA,pqB,Act.put,pqC,pqD,pqE] at hK ⊢
         rw [e0] at hK ⊢
         go_simp
         refine (HLO.out _ hG).mono ?_
         rintro e w4' ⟨⟨yk,yn,yt,ya,yl,yc,yb,ym,ye⟩,rfl,hb4,hv4⟩
         exact hK.out (.agg #[.int .u8 yk,.int .i64 yn,.string yt,.slice ya yl yc,.slice yb ym ye]) _ _ rfl (below_more hG hb4) hb4 ⟨⟨yk,yn,yt,ya,yl,yc,yb,ym,ye⟩,rfl,valOf_pure hv4 (Below.refl _ _)⟩
        refine PutSteps.at rfl (fun vs Y hG hdep K hK=>?_) ?_
        ·obtain ⟨⟨yk,yn,yt,ya,yl,yc,yb,ym,ye⟩,e0,hv⟩:=show ∃ y:VC,vs 1=y.val∧ValAt (pureW Y) (listJ (ms.map mapgJ)) y.val from hdep 1 rfl (by kernel_rfl)
         simp only [VC.val] at e0
         simp only [putsOf,pqA,pqB,Act.put,pqC,pqD,pqE] at hK ⊢
         rw [e0] at hK ⊢
         go_simp
         exact hK.out (.agg #[.string tMapping,.int .u8 yk,.int .i64 yn,.string yt,.slice ya yl yc,.slice yb ym ye]) _ _ rfl hG (Below.refl _ _) ⟨⟨yk,yn,yt,ya,yl,yc,yb,ym,ye⟩,rfl,hv⟩
        refine PutSteps.at rfl (fun vs Y hG hdep K hK=>?_) ?_
        ·have y0:=cell_keep hG r0
         have y1:=cell_keep hG r1
         have y2:=cell_keep hG r2
         have y3:=cell_keep hG r3
         have y4:=cell_keep hG r4
         simp only [putsOf,pqA,pqB,Act.put,pqC,pqD,pqE] at hK ⊢
         go_simp
         exact hK.out (.agg #[.int .u8 rk,.int .i64 rn,.string rt,.slice ra rl rc,.slice rb rm re]) _ _ rfl hG (Below.refl _ _) rfl
        refine PutSteps.at rfl (fun vs Y hG hdep K hK=>?_) ?_
        ·have e0:vs 3=.agg #[.int .u8 rk,.int .i64 rn,.string rt,.slice ra rl rc,.slice rb rm re]:=hdep 3 rfl (by kernel_rfl)
         simp only [putsOf,pqA,pqB,Act.put,pqC,pqD,pqE] at hK ⊢
         rw [e0] at hK ⊢
         go_simp
         exact hK.out (.agg #[.string tRepos,.int .u8 rk,.int .i64 rn,.string rt,.slice ra rl rc,.slice rb rm re]) _ _ rfl hG (Below.refl _ _) rfl
        refine PutSteps.at rfl (fun vs Y hG hdep K hK=>?_) ?_
        ·obtain ⟨⟨yk,yn,yt,ya,yl,yc,yb,ym,ye⟩,e0,hv⟩:=show ∃ y:VC,vs 2=.agg #[.string tMapping,.int .u8 y.k,.int .i64 y.n,.string y.t,.slice y.a y.l y.c,.slice y.b y.m y.e]∧ValAt (pureW Y) (listJ (ms.map mapgJ)) y.val from hdep 2 rfl (by kernel_rfl)
         have e1:vs 4=.agg #[.string tRepos,.int .u8 rk,.int .i64 rn,.string rt,.slice ra rl rc,.slice rb rm re]:=hdep 4 rfl (by kernel_rfl)
         simp only at e0
         simp only [putsOf,pqA,pqB,Act.put,pqC,pqD,pqE] at hK ⊢
         rw [e0,e1] at hK ⊢
         go_simp
         exact hK.out (.slice (some ⟨Y.heap.size,0,none⟩) 2 2) _ _ rfl (bel_alloc hG _) (bel_alloc (Below.refl _ _) _) ⟨Y.heap.size,⟨yk,yn,yt,ya,yl,yc,yb,ym,ye⟩,rfl,hv.imp (pure_keep (bel_alloc (Below.refl _ _) _)),blkAt_newC _ _ _⟩
        refine PutSteps.at rfl (fun vs Y hG hdep K hK=>?_) ?_
        ·obtain ⟨b,y,e0,hv,hb⟩:=show ∃ (b:Nat) (y:VC),vs 5=.slice (some ⟨b,0,none⟩) 2 2∧ValAt (pureW Y) (listJ (ms.map mapgJ)) y.val∧BlkAt Y b 41 #[.string tMapping,.int .u8 y.k,.int .i64 y.n,.string y.t,.slice y.a y.l y.c,.slice y.b y.m y.e,.string tRepos,.int .u8 rk,.int .i64 rn,.string rt,.slice ra rl rc,.slice rb rm re] from hdep 5 rfl (by kernel_rfl)
         simp only [putsOf,pqA,pqB,Act.put,pqC,pqD,pqE] at hK ⊢
         rw [e0] at hK ⊢
         go_simp
         refine (HOB.out y ⟨rk,rn,rt,ra,rl,rc,rb,rm,re⟩ b 2 _ hv (HRv.out.imp (pure_keep hG)) (fun j u hj=>by rw [BlkAt.cell hb j];simpa [xmCells,XM.cells] using hj)).mono ?_
         rintro e w4' ⟨⟨qk,qn,qt,qa,ql,qc,qb,qm,qe⟩,rfl,hb4,hv4⟩
         have hsY:=hG.size
         exact hK.out (.tuple #[.agg #[.int .u8 qk,.int .i64 qn,.string qt,.slice qa ql qc,.slice qb qm qe],.int .i64 0]) _ _ rfl (below_more hG hb4) hb4 ⟨⟨qk,qn,qt,qa,ql,qc,qb,qm,qe⟩,rfl,NewV.low hv4 (by omega)⟩
        refine PutSteps.at rfl (fun vs Y hG hdep K hK=>?_) ?_
        ·simp only [putsOf,pqA,pqB,Act.put,pqC,pqD,pqE] at hK ⊢
         go_simp
         obtain ⟨y,e0,hv⟩:=show ∃ y:VC,vs 6=.tuple #[y.val,.int .i64 0]∧NewV (w.heap.size+2) Y (chartJ M) y.val from hdep 6 rfl (by kernel_rfl)
         rw [e0] at hK ⊢
         go_simp
         exact hK.out y.val _ _ rfl hG (Below.refl _ _) ⟨y,rfl,hv⟩
        refine PutSteps.at rfl (fun vs Y hG hdep K hK=>?_) PutSteps.nil
        ·simp only [putsOf,pqA,pqB,Act.put,pqC,pqD,pqE] at hK ⊢
         go_simp
         obtain ⟨y,e0,-⟩:=show ∃ y:VC,vs 6=.tuple #[y.val,.int .i64 0]∧NewV (w.heap.size+2) Y (chartJ M) y.val from hdep 6 rfl (by kernel_rfl)
         rw [e0] at hK ⊢
         go_simp
         exact hK.out (.int .i64 0) _ _ rfl hG (Below.refl _ _) rfl
       ·intro vs Y hG hdep
        obtain ⟨⟨yk,yn,yt,ya,yl,yc,yb,ym,ye⟩,e0,hv⟩:=show ∃ y:VC,vs 7=y.val∧NewV (w.heap.size+2) Y (chartJ M) y.val from hdep 7 rfl
        have e1:vs 8=.int .i64 0:=hdep 8 rfl
        simp only [VC.val] at e0
        simp only [putsOf,pqA,pqB,Act.put,pqC,pqD,pqE]
        simp only [List.filterMap_cons,List.filterMap_nil,nthO]
        rw [e0,e1]
        have hR:=BlkAt.keep HRes.out hG
        obtain ⟨z0,z1,z2,z3,z4,zf⟩:=b5 hR
        have hbY:=below_more HBr.out hG
        have HNV:Hid (NewV w.heap.size (((((Y.setCell ⟨w.heap.size+1,0,none⟩ (.int .u8 yk)).setCell ⟨w.heap.size+1,1,none⟩ (.int .i64 yn)).setCell ⟨w.heap.size+1,2,none⟩ (.string yt)).setCell ⟨w.heap.size+1,3,none⟩ (.slice ya yl yc)).setCell ⟨w.heap.size+1,4,none⟩ (.slice yb ym ye)) (chartJ M) (.agg #[.int .u8 yk,.int .i64 yn,.string yt,.slice ya yl yc,.slice yb ym ye])) :=
         ValAt.carry hv fun k hk hP=>⟨offB_none.2 (by have:=offB_none.1 hP;omega),heap_set5 _ _ _ _ _ _ _ _ (by have:=offB_none.1 hP;omega)⟩
        have HR5:=Lib.hid (blk_set5 hR (.int .u8 yk) (.int .i64 yn) (.string yt) (.slice ya yl yc) (.slice yb ym ye))
        have HB5:=Lib.hid (bset5 hbY (Nat.le_succ _) (.int .u8 yk) (.int .i64 yn) (.string yt) (.slice ya yl yc) (.slice yb ym ye))
        clear hdep hG hv hR hbY e0 e1
        refine wpList_plain rfl fun K hK=>?_
        go_simp
        refine hK _ _ ?_
        refine wpList_plain rfl fun K hK=>?_
        go_simp
        refine hK _ _ ?_
        refine wpList_nil ?_
        clear z0 z1 z2 z3 z4 zf
        generalize ((((Y.setCell ⟨w.heap.size+1,0,none⟩ (.int .u8 yk)).setCell ⟨w.heap.size+1,1,none⟩ (.int .i64 yn)).setCell ⟨w.heap.size+1,2,none⟩ (.string yt)).setCell ⟨w.heap.size+1,3,none⟩ (.slice ya yl yc)).setCell ⟨w.heap.size+1,4,none⟩ (.slice yb ym ye)=wF at HNV HR5 HB5 ⊢
        obtain ⟨q0,q1,q2,q3,q4,-⟩:=b5 HR5.out
        go_wp2_with fail
        exact bodyPost_ret (v:=.tuple #[.agg #[.int .u8 yk,.int .i64 yn,.string yt,.slice ya yl yc,.slice yb ym ye],.int .i64 0]) (by simp [results,Tryz.results8,go_sem,q0,q1,q2,q3,q4]) rfl ⟨HB5.out,by first | exact ⟨⟨yk,yn,yt,ya,yl,yc,yb,ym,ye⟩,rfl,HNV.out⟩ | exact Or.inr ⟨rfl,⟨yk,yn,yt,ya,yl,yc,yb,ym,ye⟩,rfl,HNV.out⟩⟩
end

section
set_option maxRecDepth 100000
open Go.RowKit
def memD (tb nb no ib io n xc xe j:Nat) (sv:Value) (nm:ByteArray) (yk yn:Int) (yt:ByteArray) (ya:Option Addr) (yl yc:Nat) (yb:Option Addr) (ym ye:Nat) (k:Nat) (v:Value) (w:World):Prop :=
 match k with
 | 0=>v=sv
 | 1=>v=.pointer (some ⟨tb,3,none⟩)
 | 2=>v=.slice (some ⟨nb,no,none⟩) n xc
 | 3=>v=.int .i64 j
 | 4=>v=.pointer (some ⟨nb,no+j,none⟩)
 | 5=>v=.string nm
 | 6=>v=.pointer (some ⟨tb,4,none⟩)
 | 7=>v=.slice (some ⟨ib,io,none⟩) n xe
 | 8=>v=.int .i64 j
 | 9=>v=.pointer (some ⟨ib,io+j*5,none⟩)
 | 10=>v=.agg #[.int .u8 yk,.int .i64 yn,.string yt,.slice ya yl yc,.slice yb ym ye]
 | 11=>v=.agg #[.string nm,.int .u8 yk,.int .i64 yn,.string yt,.slice ya yl yc,.slice yb ym ye]
 | 12=>∃ b,v=.slice (some ⟨b,0,none⟩) 1 1∧BlkAt w b 41 #[.string nm,.int .u8 yk,.int .i64 yn,.string yt,.slice ya yl yc,.slice yb ym ye]
 | _=>True
theorem memD_keep {tb nb no ib io n xc xe j:Nat} {sv:Value} {nm:ByteArray} {yk yn:Int} {yt:ByteArray} {ya:Option Addr} {yl yc:Nat} {yb:Option Addr} {ym ye:Nat}:∀ k v w w',memD tb nb no ib io n xc xe j sv nm yk yn yt ya yl yc yb ym ye k v w→Below w.heap.size w w'→memD tb nb no ib io n xc xe j sv nm yk yn yt ya yl yc yb ym ye k v w':=by
 intro k v w w' h hb
 unfold memD at h ⊢
 split at h <;> try exact h
 obtain ⟨b,h1,h2⟩:=h
 exact ⟨b,h1,BlkAt.keep h2 hb⟩
theorem row_lower {w:World} {B B' m n:Nat} {T:TypeId} {v:Value} {xs:List Value} (h:w.ownsRow B' T m v n xs) (hB:B≤B'):w.ownsRow B T m v n xs:=by
 refine ⟨h.1,?_⟩
 rcases h.2 with e | ⟨g,cap,cur,e,hg,r⟩
 ·exact Or.inl e
 ·exact Or.inr ⟨g,cap,cur,e,Nat.le_trans hB hg,r⟩
def MemRow (Q w:World) (B:Nat) (V:JV) (v:Value):Prop:=∃ (xs:List XM) (a:Option Addr) (c:Nat),v=.slice a V.items.length c∧xs.length=V.items.length∧xs.map (fun x=>(x.name,x.V))=V.names.zip V.items∧w.ownsRow B 41 6 v xs.length (xmCells xs)∧∀ y ∈ xs,ValAt Q y.V y.c.val∧y.name.size≤maxLen
theorem members25_any (Q:World) (V:JV) (x:VC) (w:World) (h:ValAt Q V x.val) (hQ:∀ p u,Q.cell? p=some u→w.cell? p=some u) (hl:V.names.length=V.items.length) (hn:V.items.length≤1000) :
 Calls Tryz.prog 9 #[x.val] w fun e w'=>∃ v,e=.returned v∧Below w.heap.size w w'∧MemRow Q w' w.heap.size V v:=by
 obtain ⟨xk,xn,xt,xa,xl,xc,xb,xm,xe⟩:=x
 obtain ⟨vn,vi,hxe,-,-,-,-,-,hns,his⟩:=valAt_iff.1 h
 simp only [VC.val,Value.agg.injEq,Array.mk.injEq,List.cons.injEq,Value.int.injEq,Value.string.injEq,true_and,and_true] at hxe
 obtain ⟨-,-,-,e4,e5⟩:=hxe
 rw [← e4] at hns
 rw [← e5] at his
 obtain ⟨an',nc',f4,-,hsz,hnc⟩:=hns.parts
 obtain ⟨ai',ic',f5,-,hic⟩:=his.parts
 simp only [Value.slice.injEq] at f4 f5
 obtain ⟨rfl,f42,rfl⟩:=f4
 obtain ⟨rfl,f52,rfl⟩:=f5
 obtain ⟨n,hnn⟩:∃ n,V.items.length=n:=⟨_,rfl⟩
 rw [hnn] at hl hn f52
 rw [hl] at f42
 subst xl
 subst xm
 have HNN:=Lib.hid hnn
 have HNL:=Lib.hid hl
 have HSZ:=Lib.hid hsz
 have HNC:=Lib.hid hnc
 have HIC:=Lib.hid hic
 have HQ:=Lib.hid hQ
 obtain ⟨w1,hw1⟩:∃ y,y=w.alloc (.cells #[.int .u8 xk,.int .i64 xn,.string xt,.slice xa n xc,.slice xb n xe] 29):=⟨_,rfl⟩
 have HB1:Hid (Below w.heap.size w w1):=by rw [hw1];exact bel_alloc (Below.refl _ _) _
 have HX1:Hid (BlkAt w1 w.heap.size 29 #[.int .u8 xk,.int .i64 xn,.string xt,.slice xa n xc,.slice xb n xe]):=by rw [hw1];exact blkAt_new w _ _
 have hs1:w1.heap.size=w.heap.size+1:=by rw [hw1,size_al]
 obtain ⟨tb,htb⟩:∃ z,w.heap.size=z:=⟨_,rfl⟩
 rw [htb] at HX1 hs1
 have HTB:=Lib.hid htb
 have HW1:=Lib.hid hw1
 obtain ⟨j0,hj,hy0,hy1,hy2⟩:=info_parts infoPM
 have HJ:=Lib.hid hj
 have HY0:=Lib.hid hy0
 have HY1:=Lib.hid hy1
 have HY2:=Lib.hid hy2
 clear h hns his e4 e5 hsz hnc hic hQ hnn hl hj hy0 hy1 hy2 hw1 htb
 go_enter Tryz.func9,Tryz.ntmps9
 simp only [VC.val]
 go_wp2_with fail
 rw [← HW1.out,HTB.out]
 go_loopw [3,4] (fun vl i wr=>∃ (j:Nat) (xs:List XM) (va:Option Addr) (vc:Nat),j≤n∧i=.int .i64 j∧vl=.slice va j vc∧xs.length=j∧Hid (xs.map (fun x=>(x.name,x.V))=(V.names.take j).zip (V.items.take j))∧Hid (wr.ownsRow (tb+1) 41 6 (.slice va j vc) j (xmCells xs))∧Hid (∀ y ∈ xs,ValAt Q y.V y.c.val∧y.name.size≤maxLen)∧Hid (Below w1.heap.size w1 wr)) (fun _ i _=>n - (intOf i).toNat)
 case atStart=>exact ⟨0,[],none,0,by omega,rfl,rfl,rfl,rfl,World.ownsRow_nil _ _ _ _,fun _ h=>by simp at h,Below.refl _ _⟩
 case round =>
  obtain ⟨j,xs,va,vc,hj,rfl,rfl,hxs,HXS,HO,HV,HB⟩:=hrel
  obtain ⟨x0,x1,x2,x3,x4,xf⟩:=b5 (BlkAt.keep HX1.out HB.out)
  by_cases hjn:j<n
  ·obtain ⟨nm,hnm⟩:∃ s,V.names[j]?=some s:=⟨_,List.getElem?_eq_getElem (by rw [HNL.out];exact hjn)⟩
   obtain ⟨U,hU⟩:∃ s,V.items[j]?=some s:=⟨_,List.getElem?_eq_getElem (by rw [HNN.out];exact hjn)⟩
   obtain ⟨nb,no,rfl,hc⟩:=HNC.out j nm hnm
   obtain ⟨ib,io,un,ui,rfl,d0,d1,d2,d3,d4,r0,r1,r2,r3,r4,r5,r6⟩:=HIC.out j U hU
   obtain ⟨ya,yc,rfl,-,-,-⟩:=r5.parts
   obtain ⟨yb,ye,rfl,-,-⟩:=r6.parts
   have hvu:ValAt Q U (VC.val ⟨U.k,U.n,U.t,ya,U.names.length,yc,yb,U.items.length,ye⟩):=valAt_iff.2 ⟨_,_,rfl,r0,r1,r2,r3,r4,r5,r6⟩
   have hz:=HSZ.out nm (List.mem_of_getElem? hnm)
   have hb:=below_more HB1.out HB.out
   have p0:=cell_keep hb (HQ.out _ _ hc)
   have q0:=cell_keep hb (HQ.out _ _ d0)
   have q1:=cell_keep hb (HQ.out _ _ d1)
   have q2:=cell_keep hb (HQ.out _ _ d2)
   have q3:=cell_keep hb (HQ.out _ _ d3)
   have q4:=cell_keep hb (HQ.out _ _ d4)
   obtain ⟨yk,hyk⟩:∃ z,U.k=z:=⟨_,rfl⟩
   obtain ⟨yn,hyn⟩:∃ z,U.n=z:=⟨_,rfl⟩
   obtain ⟨yt,hyt⟩:∃ z,U.t=z:=⟨_,rfl⟩
   obtain ⟨yl,hyl⟩:∃ z,U.names.length=z:=⟨_,rfl⟩
   obtain ⟨ym,hym⟩:∃ z,U.items.length=z:=⟨_,rfl⟩
   rw [hyk] at q0 hvu
   rw [hyn] at q1 hvu
   rw [hyt] at q2 hvu
   rw [hyl] at q3 hvu
   rw [hym] at q4 hvu
   have HVU:=Lib.hid hvu
   have HZ:=Lib.hid hz
   have HNM:=Lib.hid hnm
   have HU:=Lib.hid hU
   have i0':(0:Int)≤(j:Int):=by omega
   have i1':(j:Int)<(n:Int):=by omega
   clear hc d0 d1 d2 d3 d4 r0 r1 r2 r3 r4 r5 r6 hvu hz hnm hU hyk hyn hyt hyl hym hb x0 x1 x2
   go_wp2_with fail
   refine wp_region_any (by kernel_rfl) ?_
   refine wpAny_puts [(0,some 19),(1,some 20),(2,some 21),(3,some 22),(4,some 23),(5,some 24),(6,some 25),(7,some 26),(8,some 27),(9,some 28),(10,some 29),(11,some 30),(12,some 31)] 13 [14] (by kernel_rfl) (by kernel_rfl) (of_decide_eq_true (by kernel_rfl)) (fun w'=>Below wr.heap.size wr w') (memD tb nb no ib io n xc xe j (.slice va j vc) nm yk yn yt ya yl yc yb ym ye) memD_keep (bel_drew (Below.refl _ _)) ?_ ?_
   ·
    refine PutSteps.at rfl (fun vs Y hG hdep K hK=>?_) ?_
    ·simp only [putsOf,pqA,pqB,Act.put,pqC,pqD,pqE] at hK ⊢
     go_simp
     exact hK.out (.slice va j vc) _ _ rfl hG (Below.refl _ _) rfl
    refine PutSteps.at rfl (fun vs Y hG hdep K hK=>?_) ?_
    ·simp only [putsOf,pqA,pqB,Act.put,pqC,pqD,pqE] at hK ⊢
     go_simp
     exact hK.out (.pointer (some ⟨tb,3,none⟩)) _ _ rfl hG (Below.refl _ _) rfl
    refine PutSteps.at rfl (fun vs Y hG hdep K hK=>?_) ?_
    ·have e0:vs 1=.pointer (some ⟨tb,3,none⟩):=hdep 1 rfl (by kernel_rfl)
     have y0:=cell_keep hG x3
     simp only [putsOf,pqA,pqB,Act.put,pqC,pqD,pqE] at hK ⊢
     rw [e0] at hK ⊢
     go_simp
     exact hK.out (.slice (some ⟨nb,no,none⟩) n xc) _ _ rfl hG (Below.refl _ _) rfl
    refine PutSteps.at rfl (fun vs Y hG hdep K hK=>?_) ?_
    ·simp only [putsOf,pqA,pqB,Act.put,pqC,pqD,pqE] at hK ⊢
     go_simp
     exact hK.out (.int .i64 j) _ _ rfl hG (Below.refl _ _) rfl
    refine PutSteps.at rfl (fun vs Y hG hdep K hK=>?_) ?_
    ·have e0:vs 2=.slice (some ⟨nb,no,none⟩) n xc:=hdep 2 rfl (by kernel_rfl)
     have e1:vs 3=.int .i64 j:=hdep 3 rfl (by kernel_rfl)
     simp only [putsOf,pqA,pqB,Act.put,pqC,pqD,pqE] at hK ⊢
     rw [e0,e1] at hK ⊢
     go_simp
     exact hK.out (.pointer (some ⟨nb,no+j,none⟩)) _ _ rfl hG (Below.refl _ _) rfl
    refine PutSteps.at rfl (fun vs Y hG hdep K hK=>?_) ?_
    ·have e0:vs 4=.pointer (some ⟨nb,no+j,none⟩):=hdep 4 rfl (by kernel_rfl)
     have y0:=cell_keep hG p0
     simp only [putsOf,pqA,pqB,Act.put,pqC,pqD,pqE] at hK ⊢
     rw [e0] at hK ⊢
     go_simp
     exact hK.out (.string nm) _ _ rfl hG (Below.refl _ _) rfl
    refine PutSteps.at rfl (fun vs Y hG hdep K hK=>?_) ?_
    ·simp only [putsOf,pqA,pqB,Act.put,pqC,pqD,pqE] at hK ⊢
     go_simp
     exact hK.out (.pointer (some ⟨tb,4,none⟩)) _ _ rfl hG (Below.refl _ _) rfl
    refine PutSteps.at rfl (fun vs Y hG hdep K hK=>?_) ?_
    ·have e0:vs 6=.pointer (some ⟨tb,4,none⟩):=hdep 6 rfl (by kernel_rfl)
     have y0:=cell_keep hG x4
     simp only [putsOf,pqA,pqB,Act.put,pqC,pqD,pqE] at hK ⊢
     rw [e0] at hK ⊢
     go_simp
     exact hK.out (.slice (some ⟨ib,io,none⟩) n xe) _ _ rfl hG (Below.refl _ _) rfl
    refine PutSteps.at rfl (fun vs Y hG hdep K hK=>?_) ?_
    ·simp only [putsOf,pqA,pqB,Act.put,pqC,pqD,pqE] at hK ⊢
     go_simp
     exact hK.out (.int .i64 j) _ _ rfl hG (Below.refl _ _) rfl
    refine PutSteps.at rfl (fun vs Y hG hdep K hK=>?_) ?_
    ·have e0:vs 7=.slice (some ⟨ib,io,none⟩) n xe:=hdep 7 rfl (by kernel_rfl)
     have e1:vs 8=.int .i64 j:=hdep 8 rfl (by kernel_rfl)
     simp only [putsOf,pqA,pqB,Act.put,pqC,pqD,pqE] at hK ⊢
     rw [e0,e1] at hK ⊢
     go_simp
     exact hK.out (.pointer (some ⟨ib,io+j*5,none⟩)) _ _ rfl hG (Below.refl _ _) rfl
    refine PutSteps.at rfl (fun vs Y hG hdep K hK=>?_) ?_
    ·have e0:vs 9=.pointer (some ⟨ib,io+j*5,none⟩):=hdep 9 rfl (by kernel_rfl)
     have y0:=cell_keep hG q0
     have y1:=cell_keep hG q1
     have y2:=cell_keep hG q2
     have y3:=cell_keep hG q3
     have y4:=cell_keep hG q4
     simp only [putsOf,pqA,pqB,Act.put,pqC,pqD,pqE] at hK ⊢
     rw [e0] at hK ⊢
     go_simp
     exact hK.out (.agg #[.int .u8 yk,.int .i64 yn,.string yt,.slice ya yl yc,.slice yb ym ye]) _ _ rfl hG (Below.refl _ _) rfl
    refine PutSteps.at rfl (fun vs Y hG hdep K hK=>?_) ?_
    ·have e0:vs 5=.string nm:=hdep 5 rfl (by kernel_rfl)
     have e1:vs 10=.agg #[.int .u8 yk,.int .i64 yn,.string yt,.slice ya yl yc,.slice yb ym ye]:=hdep 10 rfl (by kernel_rfl)
     simp only [putsOf,pqA,pqB,Act.put,pqC,pqD,pqE] at hK ⊢
     rw [e0,e1] at hK ⊢
     go_simp
     exact hK.out (.agg #[.string nm,.int .u8 yk,.int .i64 yn,.string yt,.slice ya yl yc,.slice yb ym ye]) _ _ rfl hG (Below.refl _ _) rfl
    refine PutSteps.at rfl (fun vs Y hG hdep K hK=>?_) PutSteps.nil
    ·have e0:vs 11=.agg #[.string nm,.int .u8 yk,.int .i64 yn,.string yt,.slice ya yl yc,.slice yb ym ye]:=hdep 11 rfl (by kernel_rfl)
     simp only [putsOf,pqA,pqB,Act.put,pqC,pqD,pqE] at hK ⊢
     rw [e0] at hK ⊢
     go_simp
     exact hK.out (.slice (some ⟨Y.heap.size,0,none⟩) 1 1) _ _ rfl (bel_alloc hG _) (bel_alloc (Below.refl _ _) _) ⟨Y.heap.size,rfl,blkAt_newC _ _ _⟩
   ·intro vs Y hG hdep
    have e0:vs 0=.slice va j vc:=hdep 0 rfl
    obtain ⟨bb,e7,hB7⟩:=show ∃ b,vs 12=.slice (some ⟨b,0,none⟩) 1 1∧BlkAt Y b 41 #[.string nm,.int .u8 yk,.int .i64 yn,.string yt,.slice ya yl yc,.slice yb ym ye] from hdep 12 rfl
    simp only [putsOf,pqA,pqB,Act.put,pqC,pqD,pqE]
    simp only [List.filterMap_cons,List.filterMap_nil,nthO]
    rw [e0,e7]
    have hoY:=ownsRow_keep HO.out hG
    have hsY:=hG.size
    have hsr:=HB.out.size
    refine wpList_step fun K hK=>?_
    refine step_append_lies Y rfl _ _ _ rfl (tb+1) 41 j0 _ 6 96 Tryz.underlying37 HJ.out HY0.out HY1.out HY2.out rfl (by decide) (.slice va j vc) j (xmCells xs) rfl hoY ⟨bb,0,none⟩ 1 1 [.string nm,.int .u8 yk,.int .i64 yn,.string yt,.slice ya yl yc,.slice yb ym ye] rfl rfl (World.news_of_block (fr:=(0,0)) hB7) (by intro u hu;simp only [List.mem_cons,List.not_mem_nil,or_false] at hu;rcases hu with rfl | rfl | rfl | rfl | rfl | rfl <;> rfl) (by decide) (by unfold maxLen;omega) (by omega) (by omega) Y.heap.size rfl ?_
    intro gg cp' w6 hown6 hgrow hat hlt
    refine hK _ _ ?_
    have hO8:Hid (w6.ownsRow (tb+1) 41 6 (.slice (some ⟨gg,0,none⟩) (j+1) cp') (j+1) (xmCells (xs++[(⟨nm,⟨yk,yn,yt,ya,yl,yc,yb,ym,ye⟩,U⟩:XM)]))):=by
     rw [xmCells_snoc]
     exact Lib.hid hown6
    have hB8:Hid (Below w1.heap.size w1 w6):=(below_more HB.out hG).grown hgrow (by omega) (fun k hk=>by have:=(World.ownsRow.lt HO.out k hk).1;omega)
    have hX8:Hid ((xs++[(⟨nm,⟨yk,yn,yt,ya,yl,yc,yb,ym,ye⟩,U⟩:XM)]).map (fun x=>(x.name,x.V))=(V.names.take (j+1)).zip (V.items.take (j+1))):=by
     show _=_
     rw [List.map_append,HXS.out,List.take_add_one,List.take_add_one,HNM.out,HU.out,Option.toList_some,Option.toList_some,List.zip_append (by rw [List.length_take,List.length_take,HNL.out,HNN.out])]
     rfl
    have hV8:Hid (∀ y ∈ xs++[(⟨nm,⟨yk,yn,yt,ya,yl,yc,yb,ym,ye⟩,U⟩:XM)],ValAt Q y.V y.c.val∧y.name.size≤maxLen):=fun y hy=>by
     rcases List.mem_append.1 hy with hy | hy
     ·exact HV.out y hy
     ·rw [List.mem_singleton.1 hy];exact ⟨HVU.out,HZ.out⟩
    clear hown6 hgrow hat hlt hdep hB7 e0 e7 hoY
    refine wpList_plain rfl fun K hK=>?_
    go_simp
    refine hK _ _ ?_
    refine wpList_nil ?_
    go_wp2_with fail
    exact ⟨⟨j+1,_,some ⟨gg,0,none⟩,cp',by omega,by go_num,rfl,by rw [List.length_append,hxs];rfl,hX8,hO8,hV8,hB8⟩,by simp [intOf];omega⟩
  ·obtain rfl:j=n:=by omega
   have i1':¬ (j:Int)<(j:Int):=by omega
   go_wp2_with fail
   go_ret
   refine ⟨_,rfl,below_more HB1.out HB.out,xs,va,vc,by rw [HNN.out];rfl,by rw [HNN.out];exact hxs,?_,?_,HV.out⟩
   ·have h1:=HXS.out
    rwa [List.take_of_length_le (by rw [HNL.out];exact Nat.le_refl _),List.take_of_length_le (by rw [HNN.out];exact Nat.le_refl _)] at h1
   ·have h1:=row_lower (B:=w.heap.size) HO.out (by have:=HTB.out;omega)
    rw [hxs]
    exact h1
end
end Go.Proofs.YtchinankclckjaaGreatDoor
