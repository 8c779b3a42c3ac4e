/-
 legateref25.Same: equality of maps.
-/
import Derived.Test.YtchinankclckjaaGreatDoorChartD
namespace Go.Proofs.YtchinankclckjaaGreatDoor
set_option maxHeartbeats 8000000
set_option maxRecDepth 100000
open Go.RowKit
theorem quiet_ex (W:World) (nq a m:Nat):∃ n,(W.drewN (nq+a)).drewN m=W.drewN (nq+n):=⟨a+m,by rw [World.drewN_drewN,Nat.add_assoc]⟩
theorem same25_any (M K:MapP) (v u:Value) (w:World) (h:MapAt w v M) (h2:MapAt w u K) :
 Calls Tryz.prog 24 #[v,u] w fun e w'=>e=.returned (.bool (decide (M=K)))∧Below w.heap.size w w':=by
 obtain ⟨a1,c1,a2,c2,rfl,hr1,hm1⟩:=h.parts
 obtain ⟨b1,d1,b2,d2,rfl,hr2,hm2⟩:=h2.parts
 rw [map_eq]
 obtain ⟨W,hW⟩:∃ W,W=(w.alloc (.cells #[.slice a1 M.repos.length c1,.slice a2 M.maps.length c2] 25)).alloc (.cells #[.slice b1 K.repos.length d1,.slice b2 K.maps.length d2] 25):=⟨_,rfl⟩
 have hBW:Below w.heap.size w W:=by rw [hW];exact bel_alloc (bel_alloc (Below.refl _ _) _) _
 have hA:BlkAt W w.heap.size 25 #[.slice a1 M.repos.length c1,.slice a2 M.maps.length c2]:=by rw [hW];exact (blkAt_newC w _ _).alloc _
 have hB:BlkAt W (w.heap.size+1) 25 #[.slice b1 K.repos.length d1,.slice b2 K.maps.length d2]:=by
  rw [hW]
  have:=blkAt_newC (w.alloc (.cells #[.slice a1 M.repos.length c1,.slice a2 M.maps.length c2] 25)) #[.slice b1 K.repos.length d1,.slice b2 K.maps.length d2] 25
  rwa [size_al] at this
 have HMS:=Lib.hid (fun Y (hb:Below W.heap.size W Y)=>same25Xs_any M.maps K.maps _ _ Y ((hm1.keep hBW).keep hb) ((hm2.keep hBW).keep hb))
 obtain ⟨ra,rc,e1,hl1,hc⟩:=(hr1.keep hBW).at
 obtain ⟨sa,sc,e2,hl2,hd⟩:=(hr2.keep hBW).at
 simp only [Value.slice.injEq,true_and] at e1 e2
 obtain ⟨rfl,rfl⟩:=e1
 obtain ⟨rfl,rfl⟩:=e2
 obtain ⟨n,hn⟩:∃ n,M.repos.length=n:=⟨_,rfl⟩
 obtain ⟨n2,hn2⟩:∃ n,M.maps.length=n:=⟨_,rfl⟩
 obtain ⟨k,hk⟩:∃ n,K.repos.length=n:=⟨_,rfl⟩
 obtain ⟨m2,hk2⟩:∃ n,K.maps.length=n:=⟨_,rfl⟩
 obtain ⟨t2,ht2⟩:∃ t,decide (M.maps=K.maps)=t:=⟨_,rfl⟩
 obtain ⟨r,hr⟩:∃ r,decide (M.repos=K.repos)=r:=⟨_,rfl⟩
 rw [hn,hn2] at hA hW ⊢
 rw [hk,hk2] at hB hW ⊢
 rw [hn] at hl1
 rw [hk] at hl2
 rw [hn2,hk2,ht2] at HMS
 rw [ht2,hr]
 have HW:=Lib.hid hW
 have HBW:=Lib.hid hBW
 have HR:=Lib.hid hr
 have HC:=Lib.hid hc
 have HD:=Lib.hid hd
 have HN:=Lib.hid hn
 have HK:=Lib.hid hk
 obtain ⟨p0,p1,pf⟩:=b2c hA
 obtain ⟨q0,q1,qf⟩:=b2c hB
 clear h h2 hr1 hm1 hr2 hm2 hn2 hk2 ht2 hW hBW hA hB hc hd
 by_cases hnk:n=k
 ·subst hnk
  have hb:((n:Int) != (n:Int))=false:=by simp
  clear hn hk hr
  go_enter Tryz.func24,Tryz.ntmps24
  go_wp2_with fail
  rw [← HW.out]
  go_loopw [5] (fun i wr=>∃ j:Nat,j≤n∧i=.int .i64 j∧Hid (M.repos.take j=K.repos.take j)∧∃ nq,wr=W.drewN nq) (fun i _=>n - (intOf i).toNat)
  case atStart=>exact ⟨0,by omega,rfl,by simp [Hid],0,rfl⟩
  case round =>
   obtain ⟨j,hj,rfl,HT,nq,rfl⟩:=hrel
   by_cases hjl:j<n
   ·obtain ⟨p,hp⟩:∃ x,M.repos[j]?=some x:=⟨_,List.getElem?_eq_getElem (by rw [HN.out];exact hjl)⟩
    obtain ⟨s,hs⟩:∃ x,K.repos[j]?=some x:=⟨_,List.getElem?_eq_getElem (by rw [HK.out];exact hjl)⟩
    obtain ⟨ab,ao,x1,y1,rfl,g0,g1,-,hpx⟩:=HC.out j p hp
    obtain ⟨bb,bo,x2,y2,rfl,h0,h1,-,hsx⟩:=HD.out j s hs
    have hj0:(0:Int)≤(j:Int):=by omega
    have hj1:(j:Int)<(n:Int):=by omega
    have HX:=Lib.hid (fun q=>texts25_any p.2 s.2 _ _ (W.drewN q) (hpx.keep (below_drewN (Below.refl _ _) q)) (hsx.keep (below_drewN (Below.refl _ _) q)))
    have Hp:=Lib.hid hp
    have Hs:=Lib.hid hs
    clear hp hs hpx hsx
    by_cases hst:p.1.toList=s.1.toList
    ·have hb:(p.1.toList == s.1.toList)=true:=by simp [hst]
     have hb2:(p.1.toList != s.1.toList)=false:=by simp [hst]
     have he1:p.1=s.1:=bytes_ext (by rw [← toList_data,← toList_data,hst])
     have HE1:=Lib.hid he1
     clear hst he1
     by_cases hps:p.2=s.2
     ·have HM:=Lib.hid (rows_more Hp.out Hs.out (Prod.ext HE1.out hps) HT.out)
      rw [decide_eq_true hps] at HX
      clear hps
      go_wp2_with fail
      go_quiet ((go_at_call 52;refine (HX.out _).mono ?_;rintro e w2 ⟨rfl,m,rfl⟩;exact ⟨rfl,quiet_ex _ _ _ _⟩))
      go_wp2_with fail
      exact ⟨⟨j+1,by omega,by go_num,HM,_,rfl⟩,by simp [intOf];omega⟩
     ·have hno:decide (M.repos=K.repos)=false:=rowsC_ne Hp.out Hs.out (fun e=>hps (by rw [e]))
      rw [HR.out] at hno
      subst hno
      rw [decide_eq_false hps] at HX
      clear hps
      go_wp2_with fail
      go_quiet ((go_at_call 52;refine (HX.out _).mono ?_;rintro e w2 ⟨rfl,m,rfl⟩;exact ⟨rfl,quiet_ex _ _ _ _⟩))
      go_wp2_with fail
      go_ret
      first | exact ⟨rfl,below_drewN HBW.out _⟩ | exact ⟨rfl,below_drewN (below_drewN HBW.out _) _⟩
    ·have hb:(p.1.toList == s.1.toList)=false:=by simp [hst]
     have hb2:(p.1.toList != s.1.toList)=true:=by simp [hst]
     have hno:decide (M.repos=K.repos)=false:=rowsC_ne Hp.out Hs.out (fun e=>hst (by rw [e]))
     rw [HR.out] at hno
     subst hno
     clear hst
     go_wp2_with fail
     go_quiet (fail)
     go_wp2_with fail
     go_ret
     first | exact ⟨rfl,below_drewN HBW.out _⟩ | exact ⟨rfl,below_drewN (below_drewN HBW.out _) _⟩
   ·have hj1:¬ (j:Int)<(n:Int):=by omega
    have hr:=HR.out
    rw [decide_eq_true (rows_all HN.out HK.out hjl HT.out)] at hr
    subst hr
    clear HT
    go_wp2_with fail
    refine (HMS.out _ (below_drewN (Below.refl _ _) _)).mono ?_
    rintro e w3 ⟨rfl,hb3⟩
    have HB3:=Lib.hid (below_more (below_drewN HBW.out _) hb3)
    clear hb3
    go_wp2_with fail
    go_ret
    exact ⟨rfl,HB3.out⟩
 ·have hb:((n:Int) != (k:Int))=true:=bne_iff_ne.2 (by omega)
  have hno:decide (M.repos=K.repos)=false:=decide_eq_false (fun e=>hnk (by rw [← hn,← hk,e]))
  rw [HR.out] at hno
  subst hno
  clear hn hk hr hnk
  go_enter Tryz.func24,Tryz.ntmps24
  go_wp2_with fail
  rw [← HW.out]
  go_ret
  exact ⟨rfl,HBW.out⟩
end Go.Proofs.YtchinankclckjaaGreatDoor
