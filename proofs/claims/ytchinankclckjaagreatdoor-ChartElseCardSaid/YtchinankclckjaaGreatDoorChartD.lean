/-
  Equality of texts, mappings, repositories, maps: legateref25.Texts, SameMapping, SameMappings, Same; slices.Equal, chart.sameRepo, sameMapping, Same.
  chart.wrongRepos, wrong: the first error of a mapping.
  chart.mayURLs, wrong, May: which maps may be.
-/
import Derived.Test.YtchinankclckjaaGreatDoorChartA
import Derived.Test.YtchinankclckjaaGreatDoorBlk
import Derived.Test.YtchinankclckjaaGreatDoorSignP
import Derived.BigQuiet
import Derived.StillTailTactics
namespace Go.Proofs.YtchinankclckjaaGreatDoor
set_option maxHeartbeats 8000000
section
set_option maxRecDepth 100000
open Go.RowKit
theorem blkAt_newC (w:World) (cs:Array Value) (T:TypeId):BlkAt (w.alloc (.cells cs T)) w.heap.size T cs:=heap_alloc_new w _
theorem drewN_ex (w:World) (a b:Nat):∃ q,(w.drewN a).drewN b=w.drewN q:=⟨_,World.drewN_drewN _ _ _⟩
theorem texts_ne {l m:List ByteArray} {j:Nat} {p s:ByteArray} (hp:l[j]?=some p) (hs:m[j]?=some s) (h:¬ p.toList=s.toList):decide (l=m)=false:=by
 rw [decide_eq_false_iff_not]
 rintro rfl
 rw [hp] at hs
 exact h (by rw [Option.some.inj hs])
theorem texts25_any (l m:List ByteArray) (v u:Value) (w:World) (h:StrsAt w v l) (h2:StrsAt w u m) :
 Calls Tryz.prog 52 #[v,u] w fun e w'=>e=.returned (.bool (decide (l=m)))∧∃ q,w'=w.drewN q:=by
 obtain ⟨a,c,rfl,hl,-,hc⟩:=h.parts
 obtain ⟨b,d,rfl,hm,-,hd⟩:=h2.parts
 obtain ⟨n,hn⟩:∃ n,l.length=n:=⟨_,rfl⟩
 obtain ⟨k,hk⟩:∃ n,m.length=n:=⟨_,rfl⟩
 rw [hn] at hl ⊢
 rw [hk] at hm ⊢
 obtain ⟨r,hr⟩:∃ r,decide (l=m)=r:=⟨_,rfl⟩
 rw [hr]
 have HR:=Lib.hid hr
 have HC:=Lib.hid hc
 have HD:=Lib.hid hd
 have HN:=Lib.hid hn
 have HK:=Lib.hid hk
 clear h h2 hc hd
 by_cases hnk:n=k
 ·subst hnk
  have hb:((n:Int) != (n:Int))=false:=by simp
  clear hn hk hr
  go_enter Tryz.func52,Tryz.ntmps52
  go_wp2_with fail
  go_loopw [5] (fun i wr=>∃ j:Nat,j≤n∧i=.int .i64 j∧Hid (l.take j=m.take j)∧∃ nq,wr=w.drewN nq) (fun i _=>n - (intOf i).toNat)
  case atStart=>exact ⟨0,by omega,rfl,by simp [Hid],0,rfl⟩
  case round =>
   obtain ⟨j,hj,rfl,HT,nq,rfl⟩:=hrel
   by_cases hjl:j<n
   ·obtain ⟨p,hp⟩:∃ x,l[j]?=some x:=⟨_,List.getElem?_eq_getElem (by rw [HN.out];exact hjl)⟩
    obtain ⟨s,hs⟩:∃ x,m[j]?=some x:=⟨_,List.getElem?_eq_getElem (by rw [HK.out];exact hjl)⟩
    obtain ⟨ab,ao,rfl,hcp⟩:=HC.out j p hp
    obtain ⟨bb,bo,rfl,hcs⟩:=HD.out j s hs
    have hj0:(0:Int)≤(j:Int):=by omega
    have hj1:(j:Int)<(n:Int):=by omega
    have Hp:=Lib.hid hp
    have Hs:=Lib.hid hs
    clear hp hs
    by_cases hps:p.toList=s.toList
    ·have hpe:p=s:=bytes_ext (by rw [← toList_data,← toList_data,hps])
     have HPE:=Lib.hid hpe
     have hpb:(p.toList == s.toList)=true:=by simp [hps]
     clear hpe hps
     go_wp2_with fail
     go_quiet (fail)
     go_wp2_with fail
     refine ⟨⟨j+1,by omega,by go_num,?_,_,rfl⟩,by simp [intOf];omega⟩
     show l.take (j+1)=m.take (j+1)
     rw [List.take_add_one,List.take_add_one,Hp.out,Hs.out,HT.out,HPE.out]
    ·have hno:=texts_ne Hp.out Hs.out hps
     rw [HR.out] at hno
     subst hno
     have hpb:(p.toList == s.toList)=false:=by simp [hps]
     clear hps
     go_wp2_with fail
     go_quiet (fail)
     go_wp2_with fail
     go_ret
     exact ⟨rfl,drewN_ex _ _ _⟩
   ·have hj1:¬ (j:Int)<(n:Int):=by omega
    have hyes:l=m:=by
     have:=HT.out
     rwa [List.take_of_length_le (by rw [HN.out];omega),List.take_of_length_le (by rw [HK.out];omega)] at this
    have hr:=HR.out
    rw [decide_eq_true hyes] at hr
    subst hr
    clear hyes HT
    go_wp2_with fail
    go_ret
    exact ⟨rfl,_,rfl⟩
 ·have hb:((n:Int) != (k:Int))=true:=bne_iff_ne.2 (by omega)
  have hno:decide (l=m)=false:=decide_eq_false (by rintro rfl;exact hnk (by rw [← hn,hk]))
  rw [HR.out] at hno
  subst hno
  clear hn hk hr hnk
  go_enter Tryz.func52,Tryz.ntmps52
  go_wp2_with fail
  go_ret
  exact ⟨rfl,0,rfl⟩
theorem slEqual_any (l m:List ByteArray) (v u:Value) (w:World) (h:StrsAt w v l) (h2:StrsAt w u m) :
 Calls Tryz.prog 84 #[v,u] w fun e w'=>e=.returned (.bool (decide (l=m)))∧∃ q,w'=w.drewN q:=by
 obtain ⟨a,c,rfl,hl,-,hc⟩:=h.parts
 obtain ⟨b,d,rfl,hm,-,hd⟩:=h2.parts
 obtain ⟨n,hn⟩:∃ n,l.length=n:=⟨_,rfl⟩
 obtain ⟨k,hk⟩:∃ n,m.length=n:=⟨_,rfl⟩
 rw [hn] at hl ⊢
 rw [hk] at hm ⊢
 obtain ⟨r,hr⟩:∃ r,decide (l=m)=r:=⟨_,rfl⟩
 rw [hr]
 have HR:=Lib.hid hr
 have HC:=Lib.hid hc
 have HD:=Lib.hid hd
 have HN:=Lib.hid hn
 have HK:=Lib.hid hk
 clear h h2 hc hd
 by_cases hnk:n=k
 ·subst hnk
  have hb:((n:Int) != (n:Int))=false:=by simp
  clear hn hk hr
  go_enter Tryz.func84,Tryz.ntmps84
  go_wp2_with fail
  go_loopw [13] (fun i wr=>∃ j:Nat,j≤n∧i=.int .i64 j∧Hid (l.take j=m.take j)∧∃ nq,wr=w.drewN nq) (fun i _=>n - (intOf i).toNat)
  case atStart=>exact ⟨0,by omega,rfl,by simp [Hid],0,rfl⟩
  case round =>
   obtain ⟨j,hj,rfl,HT,nq,rfl⟩:=hrel
   by_cases hjl:j<n
   ·obtain ⟨p,hp⟩:∃ x,l[j]?=some x:=⟨_,List.getElem?_eq_getElem (by rw [HN.out];exact hjl)⟩
    obtain ⟨s,hs⟩:∃ x,m[j]?=some x:=⟨_,List.getElem?_eq_getElem (by rw [HK.out];exact hjl)⟩
    obtain ⟨ab,ao,rfl,hcp⟩:=HC.out j p hp
    obtain ⟨bb,bo,rfl,hcs⟩:=HD.out j s hs
    have hj0:(0:Int)≤(j:Int):=by omega
    have hj1:(j:Int)<(n:Int):=by omega
    have Hp:=Lib.hid hp
    have Hs:=Lib.hid hs
    clear hp hs
    by_cases hps:p.toList=s.toList
    ·have hpe:p=s:=bytes_ext (by rw [← toList_data,← toList_data,hps])
     have HPE:=Lib.hid hpe
     have hpb:(p.toList == s.toList)=true:=by simp [hps]
     clear hpe hps
     go_wp2_with fail
     go_quiet (fail)
     go_wp2_with fail
     refine ⟨⟨j+1,by omega,by go_num,?_,_,rfl⟩,by simp [intOf];omega⟩
     show l.take (j+1)=m.take (j+1)
     rw [List.take_add_one,List.take_add_one,Hp.out,Hs.out,HT.out,HPE.out]
    ·have hno:=texts_ne Hp.out Hs.out hps
     rw [HR.out] at hno
     subst hno
     have hpb:(p.toList == s.toList)=false:=by simp [hps]
     clear hps
     go_wp2_with fail
     go_quiet (fail)
     go_wp2_with fail
     go_ret
     exact ⟨rfl,drewN_ex _ _ _⟩
   ·have hj1:¬ (j:Int)<(n:Int):=by omega
    have hyes:l=m:=by
     have:=HT.out
     rwa [List.take_of_length_le (by rw [HN.out];omega),List.take_of_length_le (by rw [HK.out];omega)] at this
    have hr:=HR.out
    rw [decide_eq_true hyes] at hr
    subst hr
    clear hyes HT
    go_wp2_with fail
    go_ret
    exact ⟨rfl,_,rfl⟩
 ·have hb:((n:Int) != (k:Int))=true:=bne_iff_ne.2 (by omega)
  have hno:decide (l=m)=false:=decide_eq_false (by rintro rfl;exact hnk (by rw [← hn,hk]))
  rw [HR.out] at hno
  subst hno
  clear hn hk hr hnk
  go_enter Tryz.func84,Tryz.ntmps84
  go_wp2_with fail
  go_ret
  exact ⟨rfl,0,rfl⟩
/-! Mappings. -/
theorem MapgAt.parts {w:World} {v:Value} {x:MapgP} (h:MapgAt w v x):∃ a1 c1 a2 c2,v=.agg #[.slice a1 x.paths.length c1,.slice a2 x.repos.length c2,.bool x.term,.int .i64 x.thr]∧StrsAt w (.slice a1 x.paths.length c1) x.paths∧StrsAt w (.slice a2 x.repos.length c2) x.repos∧x.repos.length≤c2∧-9223372036854775808≤x.thr∧x.thr≤9223372036854775807:=by
 obtain ⟨u1,u2,rfl,h1,h2,hk,h3,h4⟩:=h
 obtain ⟨a1,c1,rfl,-⟩:=h1.parts
 obtain ⟨a2,c2,rfl,-⟩:=h2.parts
 exact ⟨a1,c1,a2,c2,rfl,h1,h2,hk _ _ _ rfl,h3,h4⟩
theorem b4' {w:World} {b:Nat} {T:TypeId} {v0 v1 v2 v3:Value} (h:BlkAt w b T #[v0,v1,v2,v3]) :
 w.cell? ⟨b,0,none⟩=some v0∧w.cell? ⟨b,1,none⟩=some v1∧w.cell? ⟨b,2,none⟩=some v2∧w.cell? ⟨b,3,none⟩=some v3∧∀ i,w.frozen? ⟨b,i,none⟩=false:=⟨h.cell 0,h.cell 1,h.cell 2,h.cell 3,h.free⟩
theorem same25x_any (x y:MapgP) (v u:Value) (w:World) (h:MapgAt w v x) (h2:MapgAt w u y) :
 Calls Tryz.prog 27 #[v,u] w fun e w'=>e=.returned (.bool (decide (x=y)))∧Below w.heap.size w w':=by
 obtain ⟨a1,c1,a2,c2,rfl,hp,hq,-⟩:=h.parts
 obtain ⟨b1,d1,b2,d2,rfl,hp',hq',-⟩:=h2.parts
 obtain ⟨r,hr⟩:∃ r,decide (x=y)=r:=⟨_,rfl⟩
 rw [hr]
 obtain ⟨W,hW⟩:∃ W,W=(w.alloc (.cells #[.slice a1 x.paths.length c1,.slice a2 x.repos.length c2,.bool x.term,.int .i64 x.thr] 55)).alloc (.cells #[.slice b1 y.paths.length d1,.slice b2 y.repos.length d2,.bool y.term,.int .i64 y.thr] 55):=⟨_,rfl⟩
 have hBW:Below w.heap.size w W:=by rw [hW];exact bel_alloc (bel_alloc (Below.refl _ _) _) _
 have hA:BlkAt W w.heap.size 55 #[.slice a1 x.paths.length c1,.slice a2 x.repos.length c2,.bool x.term,.int .i64 x.thr]:=by rw [hW];exact (blkAt_newC w _ _).alloc _
 have hB:BlkAt W (w.heap.size+1) 55 #[.slice b1 y.paths.length d1,.slice b2 y.repos.length d2,.bool y.term,.int .i64 y.thr]:=by
  rw [hW]
  have:=blkAt_newC (w.alloc (.cells #[.slice a1 x.paths.length c1,.slice a2 x.repos.length c2,.bool x.term,.int .i64 x.thr] 55)) #[.slice b1 y.paths.length d1,.slice b2 y.repos.length d2,.bool y.term,.int .i64 y.thr] 55
  rwa [size_al] at this
 have HT1:=Lib.hid (fun n=>texts25_any x.paths y.paths _ _ (W.drewN n) ((hp.keep hBW).keep (below_drewN (Below.refl _ _) n)) ((hp'.keep hBW).keep (below_drewN (Below.refl _ _) n)))
 have HT2:=Lib.hid (fun n=>texts25_any x.repos y.repos _ _ (W.drewN n) ((hq.keep hBW).keep (below_drewN (Below.refl _ _) n)) ((hq'.keep hBW).keep (below_drewN (Below.refl _ _) n)))
 obtain ⟨x1,x2,x3,x4⟩:=x
 obtain ⟨y1,y2,y3,y4⟩:=y
 simp only [MapgP.mk.injEq] at hr
 have HW:=Lib.hid hW
 have HBW:=Lib.hid hBW
 have HR:=Lib.hid hr
 simp only at HT1 HT2 hA hB ⊢
 obtain ⟨n1,hn1⟩:∃ n,x1.length=n:=⟨_,rfl⟩
 obtain ⟨n2,hn2⟩:∃ n,x2.length=n:=⟨_,rfl⟩
 obtain ⟨m1,hm1⟩:∃ n,y1.length=n:=⟨_,rfl⟩
 obtain ⟨m2,hm2⟩:∃ n,y2.length=n:=⟨_,rfl⟩
 simp only [hn1,hn2,hm1,hm2] at HT1 HT2 hA hB HW ⊢
 obtain ⟨p0,p1,p2,p3,pf⟩:=b4' hA
 obtain ⟨q0,q1,q2,q3,qf⟩:=b4' hB
 obtain ⟨t1,ht1⟩:∃ t,decide (x1=y1)=t:=⟨_,rfl⟩
 obtain ⟨t2,ht2⟩:∃ t,decide (x2=y2)=t:=⟨_,rfl⟩
 rw [ht1] at HT1
 rw [ht2] at HT2
 have hres:(t1 && t2 && (x3 == y3) && decide (x4=y4))=r:=by
  rw [← ht1,← ht2,← HR.out,Bool.eq_iff_iff]
  simp [and_assoc]
 have HRES:=Lib.hid hres
 clear h h2 hp hq hp' hq' hr hn1 hn2 hm1 hm2 ht1 ht2 hres hW hBW hA hB HR
 cases t1 with
 | false =>
   obtain rfl:false=r:=by rw [← HRES.out];simp
   clear HRES
   go_enter Tryz.func27,Tryz.ntmps27
   go_wp2_with fail
   rw [← HW.out]
   refine (HT1.out 0).mono ?_
   rintro e w2 ⟨rfl,m,rfl⟩
   go_wp2_with fail
   go_ret
   first | exact ⟨rfl,below_drewN HBW.out _⟩ | exact ⟨rfl,below_drewN (below_drewN HBW.out _) _⟩
 | true =>
   cases t2 with
   | false =>
     obtain rfl:false=r:=by rw [← HRES.out];simp
     clear HRES
     go_enter Tryz.func27,Tryz.ntmps27
     go_wp2_with fail
     rw [← HW.out]
     refine (HT1.out 0).mono ?_
     rintro e w2 ⟨rfl,m,rfl⟩
     go_wp2_with fail
     refine (HT2.out _).mono ?_
     rintro e w3 ⟨rfl,m3,rfl⟩
     go_wp2_with fail
     go_ret
     first | exact ⟨rfl,below_drewN HBW.out _⟩ | exact ⟨rfl,below_drewN (below_drewN HBW.out _) _⟩
   | true =>
     cases h3:(x3 == y3) with
     | false =>
       obtain rfl:false=r:=by rw [← HRES.out,h3];simp
       clear HRES
       go_enter Tryz.func27,Tryz.ntmps27
       go_wp2_with fail
       rw [← HW.out]
       refine (HT1.out 0).mono ?_
       rintro e w2 ⟨rfl,m,rfl⟩
       go_wp2_with fail
       refine (HT2.out _).mono ?_
       rintro e w3 ⟨rfl,m3,rfl⟩
       go_wp2_with fail
       go_ret
       first | exact ⟨rfl,below_drewN HBW.out _⟩ | exact ⟨rfl,below_drewN (below_drewN HBW.out _) _⟩
     | true =>
       by_cases h4:x4=y4
       ·obtain rfl:true=r:=by rw [← HRES.out,h3,decide_eq_true h4];rfl
        have h4':(x4 == y4)=true:=beq_iff_eq.2 h4
        clear HRES h4
        go_enter Tryz.func27,Tryz.ntmps27
        go_wp2_with fail
        rw [← HW.out]
        refine (HT1.out 0).mono ?_
        rintro e w2 ⟨rfl,m,rfl⟩
        go_wp2_with fail
        refine (HT2.out _).mono ?_
        rintro e w3 ⟨rfl,m3,rfl⟩
        go_wp2_with fail
        go_ret
        first | exact ⟨rfl,below_drewN HBW.out _⟩ | exact ⟨rfl,below_drewN (below_drewN HBW.out _) _⟩
       ·obtain rfl:false=r:=by rw [← HRES.out,decide_eq_false h4];simp
        have h4':(x4 == y4)=false:=beq_eq_false_iff_ne.2 h4
        clear HRES h4
        go_enter Tryz.func27,Tryz.ntmps27
        go_wp2_with fail
        rw [← HW.out]
        refine (HT1.out 0).mono ?_
        rintro e w2 ⟨rfl,m,rfl⟩
        go_wp2_with fail
        refine (HT2.out _).mono ?_
        rintro e w3 ⟨rfl,m3,rfl⟩
        go_wp2_with fail
        go_ret
        first | exact ⟨rfl,below_drewN HBW.out _⟩ | exact ⟨rfl,below_drewN (below_drewN HBW.out _) _⟩
theorem cSameX_any (x y:MapgP) (v u:Value) (w:World) (h:MapgAt w v x) (h2:MapgAt w u y) :
 Calls Tryz.prog 57 #[v,u] w fun e w'=>e=.returned (.bool (decide (x=y)))∧Below w.heap.size w w':=by
 obtain ⟨a1,c1,a2,c2,rfl,hp,hq,-⟩:=h.parts
 obtain ⟨b1,d1,b2,d2,rfl,hp',hq',-⟩:=h2.parts
 obtain ⟨r,hr⟩:∃ r,decide (x=y)=r:=⟨_,rfl⟩
 rw [hr]
 obtain ⟨W,hW⟩:∃ W,W=(w.alloc (.cells #[.slice a1 x.paths.length c1,.slice a2 x.repos.length c2,.bool x.term,.int .i64 x.thr] 55)).alloc (.cells #[.slice b1 y.paths.length d1,.slice b2 y.repos.length d2,.bool y.term,.int .i64 y.thr] 55):=⟨_,rfl⟩
 have hBW:Below w.heap.size w W:=by rw [hW];exact bel_alloc (bel_alloc (Below.refl _ _) _) _
 have hA:BlkAt W w.heap.size 55 #[.slice a1 x.paths.length c1,.slice a2 x.repos.length c2,.bool x.term,.int .i64 x.thr]:=by rw [hW];exact (blkAt_newC w _ _).alloc _
 have hB:BlkAt W (w.heap.size+1) 55 #[.slice b1 y.paths.length d1,.slice b2 y.repos.length d2,.bool y.term,.int .i64 y.thr]:=by
  rw [hW]
  have:=blkAt_newC (w.alloc (.cells #[.slice a1 x.paths.length c1,.slice a2 x.repos.length c2,.bool x.term,.int .i64 x.thr] 55)) #[.slice b1 y.paths.length d1,.slice b2 y.repos.length d2,.bool y.term,.int .i64 y.thr] 55
  rwa [size_al] at this
 have HT1:=Lib.hid (fun n=>slEqual_any x.paths y.paths _ _ (W.drewN n) ((hp.keep hBW).keep (below_drewN (Below.refl _ _) n)) ((hp'.keep hBW).keep (below_drewN (Below.refl _ _) n)))
 have HT2:=Lib.hid (fun n=>slEqual_any x.repos y.repos _ _ (W.drewN n) ((hq.keep hBW).keep (below_drewN (Below.refl _ _) n)) ((hq'.keep hBW).keep (below_drewN (Below.refl _ _) n)))
 obtain ⟨x1,x2,x3,x4⟩:=x
 obtain ⟨y1,y2,y3,y4⟩:=y
 simp only [MapgP.mk.injEq] at hr
 have HW:=Lib.hid hW
 have HBW:=Lib.hid hBW
 have HR:=Lib.hid hr
 simp only at HT1 HT2 hA hB ⊢
 obtain ⟨n1,hn1⟩:∃ n,x1.length=n:=⟨_,rfl⟩
 obtain ⟨n2,hn2⟩:∃ n,x2.length=n:=⟨_,rfl⟩
 obtain ⟨m1,hm1⟩:∃ n,y1.length=n:=⟨_,rfl⟩
 obtain ⟨m2,hm2⟩:∃ n,y2.length=n:=⟨_,rfl⟩
 simp only [hn1,hn2,hm1,hm2] at HT1 HT2 hA hB HW ⊢
 obtain ⟨p0,p1,p2,p3,pf⟩:=b4' hA
 obtain ⟨q0,q1,q2,q3,qf⟩:=b4' hB
 obtain ⟨t1,ht1⟩:∃ t,decide (x1=y1)=t:=⟨_,rfl⟩
 obtain ⟨t2,ht2⟩:∃ t,decide (x2=y2)=t:=⟨_,rfl⟩
 rw [ht1] at HT1
 rw [ht2] at HT2
 have hres:(t1 && t2 && (x3 == y3) && decide (x4=y4))=r:=by
  rw [← ht1,← ht2,← HR.out,Bool.eq_iff_iff]
  simp [and_assoc]
 have HRES:=Lib.hid hres
 clear h h2 hp hq hp' hq' hr hn1 hn2 hm1 hm2 ht1 ht2 hres hW hBW hA hB HR
 cases t1 with
 | false =>
   obtain rfl:false=r:=by rw [← HRES.out];simp
   clear HRES
   go_enter Tryz.func57,Tryz.ntmps57
   go_wp2_with fail
   rw [← HW.out]
   refine (HT1.out 0).mono ?_
   rintro e w2 ⟨rfl,m,rfl⟩
   go_wp2_with fail
   go_ret
   first | exact ⟨rfl,below_drewN HBW.out _⟩ | exact ⟨rfl,below_drewN (below_drewN HBW.out _) _⟩
 | true =>
   cases t2 with
   | false =>
     obtain rfl:false=r:=by rw [← HRES.out];simp
     clear HRES
     go_enter Tryz.func57,Tryz.ntmps57
     go_wp2_with fail
     rw [← HW.out]
     refine (HT1.out 0).mono ?_
     rintro e w2 ⟨rfl,m,rfl⟩
     go_wp2_with fail
     refine (HT2.out _).mono ?_
     rintro e w3 ⟨rfl,m3,rfl⟩
     go_wp2_with fail
     go_ret
     first | exact ⟨rfl,below_drewN HBW.out _⟩ | exact ⟨rfl,below_drewN (below_drewN HBW.out _) _⟩
   | true =>
     cases h3:(x3 == y3) with
     | false =>
       obtain rfl:false=r:=by rw [← HRES.out,h3];simp
       clear HRES
       go_enter Tryz.func57,Tryz.ntmps57
       go_wp2_with fail
       rw [← HW.out]
       refine (HT1.out 0).mono ?_
       rintro e w2 ⟨rfl,m,rfl⟩
       go_wp2_with fail
       refine (HT2.out _).mono ?_
       rintro e w3 ⟨rfl,m3,rfl⟩
       go_wp2_with fail
       go_ret
       first | exact ⟨rfl,below_drewN HBW.out _⟩ | exact ⟨rfl,below_drewN (below_drewN HBW.out _) _⟩
     | true =>
       by_cases h4:x4=y4
       ·obtain rfl:true=r:=by rw [← HRES.out,h3,decide_eq_true h4];rfl
        have h4':(x4 == y4)=true:=beq_iff_eq.2 h4
        clear HRES h4
        go_enter Tryz.func57,Tryz.ntmps57
        go_wp2_with fail
        rw [← HW.out]
        refine (HT1.out 0).mono ?_
        rintro e w2 ⟨rfl,m,rfl⟩
        go_wp2_with fail
        refine (HT2.out _).mono ?_
        rintro e w3 ⟨rfl,m3,rfl⟩
        go_wp2_with fail
        go_ret
        first | exact ⟨rfl,below_drewN HBW.out _⟩ | exact ⟨rfl,below_drewN (below_drewN HBW.out _) _⟩
       ·obtain rfl:false=r:=by rw [← HRES.out,decide_eq_false h4];simp
        have h4':(x4 == y4)=false:=beq_eq_false_iff_ne.2 h4
        clear HRES h4
        go_enter Tryz.func57,Tryz.ntmps57
        go_wp2_with fail
        rw [← HW.out]
        refine (HT1.out 0).mono ?_
        rintro e w2 ⟨rfl,m,rfl⟩
        go_wp2_with fail
        refine (HT2.out _).mono ?_
        rintro e w3 ⟨rfl,m3,rfl⟩
        go_wp2_with fail
        go_ret
        first | exact ⟨rfl,below_drewN HBW.out _⟩ | exact ⟨rfl,below_drewN (below_drewN HBW.out _) _⟩
/-! Rows of them. -/
theorem MapsAt.at {w:World} {v:Value} {l:List MapgP} (h:MapsAt w v l):∃ a c,v=.slice a l.length c∧l.length≤9223372036854775807∧∀ i x,l[i]?=some x→∃ b o a1 c1 a2 c2,a=some ⟨b,o,none⟩∧w.cell? ⟨b,o+i*4,none⟩=some (.slice a1 x.paths.length c1)∧w.cell? ⟨b,o+i*4+1,none⟩=some (.slice a2 x.repos.length c2)∧w.cell? ⟨b,o+i*4+2,none⟩=some (.bool x.term)∧w.cell? ⟨b,o+i*4+3,none⟩=some (.int .i64 x.thr)∧StrsAt w (.slice a1 x.paths.length c1) x.paths∧StrsAt w (.slice a2 x.repos.length c2) x.repos∧MapgAt w (.agg #[.slice a1 x.paths.length c1,.slice a2 x.repos.length c2,.bool x.term,.int .i64 x.thr]) x:=by
 obtain ⟨h0,-,a,c,rfl,h1⟩:=h
 refine ⟨a,c,rfl,h0,fun i x hx=>?_⟩
 obtain ⟨b,o,u1,u2,e,k0,k1,k2,k3,s1,s2,hk,t1,t2⟩:=h1 i x hx
 obtain ⟨a1,c1,rfl,-⟩:=s1.parts
 obtain ⟨a2,c2,rfl,-⟩:=s2.parts
 exact ⟨b,o,a1,c1,a2,c2,e,k0,k1,k2,k3,s1,s2,_,_,rfl,s1,s2,hk,t1,t2⟩
theorem ReposAt.at {w:World} {v:Value} {l:List RepoP} (h:ReposAt w v l):∃ a c,v=.slice a l.length c∧l.length≤9223372036854775807∧∀ i x,l[i]?=some x→∃ b o a1 c1,a=some ⟨b,o,none⟩∧w.cell? ⟨b,o+i*2,none⟩=some (.string x.1)∧w.cell? ⟨b,o+i*2+1,none⟩=some (.slice a1 x.2.length c1)∧x.1.size≤maxLen∧StrsAt w (.slice a1 x.2.length c1) x.2:=by
 obtain ⟨h0,a,c,rfl,h1⟩:=h
 refine ⟨a,c,rfl,h0,fun i x hx=>?_⟩
 obtain ⟨b,o,u1,e,k0,k1,hs,s1⟩:=h1 i x hx
 obtain ⟨a1,c1,rfl,-⟩:=s1.parts
 exact ⟨b,o,a1,c1,e,k0,k1,hs,s1⟩
theorem MapAt.parts {w:World} {v:Value} {M:MapP} (h:MapAt w v M):∃ a1 c1 a2 c2,v=.agg #[.slice a1 M.repos.length c1,.slice a2 M.maps.length c2]∧ReposAt w (.slice a1 M.repos.length c1) M.repos∧MapsAt w (.slice a2 M.maps.length c2) M.maps:=by
 obtain ⟨u1,u2,rfl,h1,h2⟩:=h
 obtain ⟨a1,c1,rfl,-⟩:=h1.at
 obtain ⟨a2,c2,rfl,-⟩:=h2.at
 exact ⟨a1,c1,a2,c2,rfl,h1,h2⟩
theorem rowsC_ne {α:Type} [DecidableEq α] {l m:List α} {j:Nat} {p s:α} (hp:l[j]?=some p) (hs:m[j]?=some s) (h:¬ p=s):decide (l=m)=false:=by
 rw [decide_eq_false_iff_not]
 rintro rfl
 rw [hp] at hs
 exact h (Option.some.inj hs)
theorem rows_more {α:Type} {l m:List α} {j:Nat} {p s:α} (hp:l[j]?=some p) (hs:m[j]?=some s) (h:p=s) (ht:l.take j=m.take j):l.take (j+1)=m.take (j+1):=by rw [List.take_add_one,List.take_add_one,hp,hs,ht,h]
theorem rows_all {α:Type} {l m:List α} {n j:Nat} (hl:l.length=n) (hm:m.length=n) (hj:¬ j<n) (ht:l.take j=m.take j):l=m:=by
 rwa [List.take_of_length_le (by omega),List.take_of_length_le (by omega)] at ht
theorem same25Xs_any (l m:List MapgP) (v u:Value) (w:World) (h:MapsAt w v l) (h2:MapsAt w u m) :
 Calls Tryz.prog 53 #[v,u] w fun e w'=>e=.returned (.bool (decide (l=m)))∧Below w.heap.size w w':=by
 obtain ⟨a,c,rfl,hl,hc⟩:=h.at
 obtain ⟨b,d,rfl,hm,hd⟩:=h2.at
 obtain ⟨n,hn⟩:∃ n,l.length=n:=⟨_,rfl⟩
 obtain ⟨k,hk⟩:∃ n,m.length=n:=⟨_,rfl⟩
 rw [hn] at hl ⊢
 rw [hk] at hm ⊢
 obtain ⟨r,hr⟩:∃ r,decide (l=m)=r:=⟨_,rfl⟩
 rw [hr]
 have HR:=Lib.hid hr
 have HC:=Lib.hid hc
 have HD:=Lib.hid hd
 have HN:=Lib.hid hn
 have HK:=Lib.hid hk
 clear h h2 hc hd
 by_cases hnk:n=k
 ·subst hnk
  have hb:((n:Int) != (n:Int))=false:=by simp
  clear hn hk hr
  go_enter Tryz.func53,Tryz.ntmps53
  go_wp2_with fail
  go_loopw [5] (fun i wr=>∃ j:Nat,j≤n∧i=.int .i64 j∧Hid (l.take j=m.take j)∧Hid (Below w.heap.size w wr)) (fun i _=>n - (intOf i).toNat)
  case atStart=>exact ⟨0,by omega,rfl,by simp [Hid],Below.refl _ _⟩
  case round =>
   obtain ⟨j,hj,rfl,HT,HB⟩:=hrel
   by_cases hjl:j<n
   ·obtain ⟨p,hp⟩:∃ x,l[j]?=some x:=⟨_,List.getElem?_eq_getElem (by rw [HN.out];exact hjl)⟩
    obtain ⟨s,hs⟩:∃ x,m[j]?=some x:=⟨_,List.getElem?_eq_getElem (by rw [HK.out];exact hjl)⟩
    obtain ⟨ab,ao,a1,c1,a2,c2,rfl,p0,p1,p2,p3,-,-,hpx⟩:=HC.out j p hp
    obtain ⟨bb,bo,b1,d1,b2,d2,rfl,q0,q1,q2,q3,-,-,hsx⟩:=HD.out j s hs
    have p0:=cell_keep HB.out p0
    have p1:=cell_keep HB.out p1
    have p2:=cell_keep HB.out p2
    have p3:=cell_keep HB.out p3
    have q0:=cell_keep HB.out q0
    have q1:=cell_keep HB.out q1
    have q2:=cell_keep HB.out q2
    have q3:=cell_keep HB.out q3
    have hj0:(0:Int)≤(j:Int):=by omega
    have hj1:(j:Int)<(n:Int):=by omega
    have HX:=Lib.hid (fun W (hb:Below w.heap.size w W)=>same25x_any p s _ _ W (hpx.keep hb) (hsx.keep hb))
    have Hp:=Lib.hid hp
    have Hs:=Lib.hid hs
    clear hp hs hpx hsx
    by_cases hps:p=s
    ·have HM:=Lib.hid (rows_more Hp.out Hs.out hps HT.out)
     rw [decide_eq_true hps] at HX
     clear hps
     go_wp2_with fail
     go_still_tail 8,(by kernel_rfl)
     change wpList _ _ _ _ _ wr.drew
     go_wp2_with fail
     refine (HX.out _ (bel_drew HB.out)).mono ?_
     rintro e w3 ⟨rfl,hb3⟩
     have HB3:=Lib.hid (below_more (bel_drew HB.out) hb3)
     clear hb3
     go_wp2_with fail
     exact ⟨⟨j+1,by omega,by go_num,HM,HB3⟩,by simp [intOf];omega⟩
    ·have hno:=rowsC_ne Hp.out Hs.out hps
     rw [HR.out] at hno
     subst hno
     rw [decide_eq_false hps] at HX
     clear hps
     go_wp2_with fail
     go_still_tail 8,(by kernel_rfl)
     change wpList _ _ _ _ _ wr.drew
     go_wp2_with fail
     refine (HX.out _ (bel_drew HB.out)).mono ?_
     rintro e w3 ⟨rfl,hb3⟩
     have HB3:=Lib.hid (below_more (bel_drew HB.out) hb3)
     clear hb3
     go_wp2_with fail
     go_ret
     exact ⟨rfl,HB3.out⟩
   ·have hj1:¬ (j:Int)<(n:Int):=by omega
    have hr:=HR.out
    rw [decide_eq_true (rows_all HN.out HK.out hjl HT.out)] at hr
    subst hr
    clear HT
    go_wp2_with fail
    go_ret
    exact ⟨rfl,HB.out⟩
 ·have hb:((n:Int) != (k:Int))=true:=bne_iff_ne.2 (by omega)
  have hno:decide (l=m)=false:=decide_eq_false (by rintro rfl;exact hnk (by rw [← hn,hk]))
  rw [HR.out] at hno
  subst hno
  clear hn hk hr hnk
  go_enter Tryz.func53,Tryz.ntmps53
  go_wp2_with fail
  go_ret
  exact ⟨rfl,Below.refl _ _⟩
theorem cSameXs_any (l m:List MapgP) (v u:Value) (w:World) (h:MapsAt w v l) (h2:MapsAt w u m) :
 Calls Tryz.prog 56 #[v,u,.func (.func 57) #[] #[]] w fun e w'=>e=.returned (.bool (decide (l=m)))∧Below w.heap.size w w':=by
 have eg:∀ args w,(callFunc 57 args).run Tryz.prog w=.ok (.enter 57 args) w:=enters_of Tryz.func57 (by kernel_rfl) rfl
 obtain ⟨a,c,rfl,hl,hc⟩:=h.at
 obtain ⟨b,d,rfl,hm,hd⟩:=h2.at
 obtain ⟨n,hn⟩:∃ n,l.length=n:=⟨_,rfl⟩
 obtain ⟨k,hk⟩:∃ n,m.length=n:=⟨_,rfl⟩
 rw [hn] at hl ⊢
 rw [hk] at hm ⊢
 obtain ⟨r,hr⟩:∃ r,decide (l=m)=r:=⟨_,rfl⟩
 rw [hr]
 have HR:=Lib.hid hr
 have HC:=Lib.hid hc
 have HD:=Lib.hid hd
 have HN:=Lib.hid hn
 have HK:=Lib.hid hk
 clear h h2 hc hd
 by_cases hnk:n=k
 ·subst hnk
  have hb:((n:Int) != (n:Int))=false:=by simp
  clear hn hk hr
  go_enter Tryz.func56,Tryz.ntmps56
  go_wp2_with fail
  go_loopw [17] (fun i wr=>∃ j:Nat,j≤n∧i=.int .i64 j∧Hid (l.take j=m.take j)∧Hid (Below w.heap.size w wr)) (fun i _=>n - (intOf i).toNat)
  case atStart=>exact ⟨0,by omega,rfl,by simp [Hid],Below.refl _ _⟩
  case round =>
   obtain ⟨j,hj,rfl,HT,HB⟩:=hrel
   by_cases hjl:j<n
   ·obtain ⟨p,hp⟩:∃ x,l[j]?=some x:=⟨_,List.getElem?_eq_getElem (by rw [HN.out];exact hjl)⟩
    obtain ⟨s,hs⟩:∃ x,m[j]?=some x:=⟨_,List.getElem?_eq_getElem (by rw [HK.out];exact hjl)⟩
    obtain ⟨ab,ao,a1,c1,a2,c2,rfl,p0,p1,p2,p3,-,-,hpx⟩:=HC.out j p hp
    obtain ⟨bb,bo,b1,d1,b2,d2,rfl,q0,q1,q2,q3,-,-,hsx⟩:=HD.out j s hs
    have p0:=cell_keep HB.out p0
    have p1:=cell_keep HB.out p1
    have p2:=cell_keep HB.out p2
    have p3:=cell_keep HB.out p3
    have hbA:=bel_alloc (Below.refl wr.heap.size wr) (.cells #[.slice a1 p.paths.length c1,.slice a2 p.repos.length c2,.bool p.term,.int .i64 p.thr] 55)
    have q0:=cell_keep hbA (cell_keep HB.out q0)
    have q1:=cell_keep hbA (cell_keep HB.out q1)
    have q2:=cell_keep hbA (cell_keep HB.out q2)
    have q3:=cell_keep hbA (cell_keep HB.out q3)
    have HBA:=Lib.hid (bel_alloc (bel_alloc HB.out (.cells #[.slice a1 p.paths.length c1,.slice a2 p.repos.length c2,.bool p.term,.int .i64 p.thr] 55)) (.cells #[.slice b1 s.paths.length d1,.slice b2 s.repos.length d2,.bool s.term,.int .i64 s.thr] 55))
    have hj0:(0:Int)≤(j:Int):=by omega
    have hj1:(j:Int)<(n:Int):=by omega
    have HX:=Lib.hid (fun W (hb:Below w.heap.size w W)=>cSameX_any p s _ _ W (hpx.keep hb) (hsx.keep hb))
    have Hp:=Lib.hid hp
    have Hs:=Lib.hid hs
    clear hp hs hpx hsx hbA
    by_cases hps:p=s
    ·have HM:=Lib.hid (rows_more Hp.out Hs.out hps HT.out)
     rw [decide_eq_true hps] at HX
     clear hps
     go_wp2_with (go_at_fn 57;refine (HX.out _ HBA.out).mono ?_)
     rintro e w3 ⟨rfl,hb3⟩
     have HB3:=Lib.hid (below_more HBA.out hb3)
     clear hb3
     go_wp2_with fail
     exact ⟨⟨j+1,by omega,by go_num,HM,HB3⟩,by simp [intOf];omega⟩
    ·have hno:=rowsC_ne Hp.out Hs.out hps
     rw [HR.out] at hno
     subst hno
     rw [decide_eq_false hps] at HX
     clear hps
     go_wp2_with (go_at_fn 57;refine (HX.out _ HBA.out).mono ?_)
     rintro e w3 ⟨rfl,hb3⟩
     have HB3:=Lib.hid (below_more HBA.out hb3)
     clear hb3
     go_wp2_with fail
     go_ret
     exact ⟨rfl,HB3.out⟩
   ·have hj1:¬ (j:Int)<(n:Int):=by omega
    have hr:=HR.out
    rw [decide_eq_true (rows_all HN.out HK.out hjl HT.out)] at hr
    subst hr
    clear HT
    go_wp2_with fail
    go_ret
    exact ⟨rfl,HB.out⟩
 ·have hb:((n:Int) != (k:Int))=true:=bne_iff_ne.2 (by omega)
  have hno:decide (l=m)=false:=decide_eq_false (by rintro rfl;exact hnk (by rw [← hn,hk]))
  rw [HR.out] at hno
  subst hno
  clear hn hk hr hnk
  go_enter Tryz.func56,Tryz.ntmps56
  go_wp2_with fail
  go_ret
  exact ⟨rfl,Below.refl _ _⟩
theorem b2c {w:World} {b:Nat} {T:TypeId} {v0 v1:Value} (h:BlkAt w b T #[v0,v1]):w.cell? ⟨b,0,none⟩=some v0∧w.cell? ⟨b,1,none⟩=some v1∧∀ i,w.frozen? ⟨b,i,none⟩=false:=⟨h.cell 0,h.cell 1,h.free⟩
theorem cSameR_any (x y:RepoP) (a1 b1:Option Addr) (c1 d1:Nat) (w:World) (h:StrsAt w (.slice a1 x.2.length c1) x.2) (h2:StrsAt w (.slice b1 y.2.length d1) y.2) :
 Calls Tryz.prog 55 #[.agg #[.string x.1,.slice a1 x.2.length c1],.agg #[.string y.1,.slice b1 y.2.length d1]] w fun e w'=>e=.returned (.bool (decide (x=y)))∧Below w.heap.size w w':=by
 obtain ⟨s,l⟩:=x
 obtain ⟨t,m⟩:=y
 simp only at h h2 ⊢
 obtain ⟨r,hr⟩:∃ r,decide ((s,l)=(t,m))=r:=⟨_,rfl⟩
 rw [hr]
 obtain ⟨n,hn⟩:∃ n,l.length=n:=⟨_,rfl⟩
 obtain ⟨k,hk⟩:∃ n,m.length=n:=⟨_,rfl⟩
 rw [hn] at h ⊢
 rw [hk] at h2 ⊢
 obtain ⟨W,hW⟩:∃ W,W=(w.alloc (.cells #[.string s,.slice a1 n c1] 48)).alloc (.cells #[.string t,.slice b1 k d1] 48):=⟨_,rfl⟩
 have hBW:Below w.heap.size w W:=by rw [hW];exact bel_alloc (bel_alloc (Below.refl _ _) _) _
 have hA:BlkAt W w.heap.size 48 #[.string s,.slice a1 n c1]:=by rw [hW];exact (blkAt_newC w _ _).alloc _
 have hB:BlkAt W (w.heap.size+1) 48 #[.string t,.slice b1 k d1]:=by
  rw [hW]
  have:=blkAt_newC (w.alloc (.cells #[.string s,.slice a1 n c1] 48)) #[.string t,.slice b1 k d1] 48
  rwa [size_al] at this
 have HT:=Lib.hid (fun q=>slEqual_any l m _ _ (W.drewN q) ((h.keep hBW).keep (below_drewN (Below.refl _ _) q)) ((h2.keep hBW).keep (below_drewN (Below.refl _ _) q)))
 obtain ⟨p0,p1,pf⟩:=b2c hA
 obtain ⟨q0,q1,qf⟩:=b2c hB
 have HW:=Lib.hid hW
 have HBW:=Lib.hid hBW
 by_cases hst:s.toList=t.toList
 ·have hs:s=t:=bytes_ext (by rw [← toList_data,← toList_data,hst])
  have hb:(s.toList == t.toList)=true:=by simp [hst]
  have hd:decide (l=m)=r:=by rw [← hr,hs];simp
  rw [hd] at HT
  clear hst hs hd hr h h2 hn hk hW hBW hA hB
  go_enter Tryz.func55,Tryz.ntmps55
  go_wp2_with fail
  rw [← HW.out]
  refine (HT.out 0).mono ?_
  rintro e w2 ⟨rfl,m2,rfl⟩
  go_wp2_with fail
  go_ret
  first | exact ⟨rfl,below_drewN HBW.out _⟩ | exact ⟨rfl,below_drewN (below_drewN HBW.out _) _⟩
 ·have hb:(s.toList == t.toList)=false:=by simp [hst]
  obtain rfl:false=r:=by
   rw [← hr,Eq.comm,decide_eq_false_iff_not]
   intro e
   simp only [Prod.mk.injEq] at e
   exact hst (by rw [e.1])
  clear hst hr h h2 hn hk hW hBW hA hB
  go_enter Tryz.func55,Tryz.ntmps55
  go_wp2_with fail
  rw [← HW.out]
  go_ret
  exact ⟨rfl,HBW.out⟩
theorem cSameRs_any (l m:List RepoP) (v u:Value) (w:World) (h:ReposAt w v l) (h2:ReposAt w u m) :
 Calls Tryz.prog 54 #[v,u,.func (.func 55) #[] #[]] w fun e w'=>e=.returned (.bool (decide (l=m)))∧Below w.heap.size w w':=by
 have eg:∀ args w,(callFunc 55 args).run Tryz.prog w=.ok (.enter 55 args) w:=enters_of Tryz.func55 (by kernel_rfl) rfl
 obtain ⟨a,c,rfl,hl,hc⟩:=h.at
 obtain ⟨b,d,rfl,hm,hd⟩:=h2.at
 obtain ⟨n,hn⟩:∃ n,l.length=n:=⟨_,rfl⟩
 obtain ⟨k,hk⟩:∃ n,m.length=n:=⟨_,rfl⟩
 rw [hn] at hl ⊢
 rw [hk] at hm ⊢
 obtain ⟨r,hr⟩:∃ r,decide (l=m)=r:=⟨_,rfl⟩
 rw [hr]
 have HR:=Lib.hid hr
 have HC:=Lib.hid hc
 have HD:=Lib.hid hd
 have HN:=Lib.hid hn
 have HK:=Lib.hid hk
 clear h h2 hc hd
 by_cases hnk:n=k
 ·subst hnk
  have hb:((n:Int) != (n:Int))=false:=by simp
  clear hn hk hr
  go_enter Tryz.func54,Tryz.ntmps54
  go_wp2_with fail
  go_loopw [17] (fun i wr=>∃ j:Nat,j≤n∧i=.int .i64 j∧Hid (l.take j=m.take j)∧Hid (Below w.heap.size w wr)) (fun i _=>n - (intOf i).toNat)
  case atStart=>exact ⟨0,by omega,rfl,by simp [Hid],Below.refl _ _⟩
  case round =>
   obtain ⟨j,hj,rfl,HT,HB⟩:=hrel
   by_cases hjl:j<n
   ·obtain ⟨p,hp⟩:∃ x,l[j]?=some x:=⟨_,List.getElem?_eq_getElem (by rw [HN.out];exact hjl)⟩
    obtain ⟨s,hs⟩:∃ x,m[j]?=some x:=⟨_,List.getElem?_eq_getElem (by rw [HK.out];exact hjl)⟩
    obtain ⟨ab,ao,a1,c1,rfl,p0,p1,-,hpx⟩:=HC.out j p hp
    obtain ⟨bb,bo,b1,d1,rfl,q0,q1,-,hsx⟩:=HD.out j s hs
    have p0:=cell_keep HB.out p0
    have p1:=cell_keep HB.out p1
    have hbA:=bel_alloc (Below.refl wr.heap.size wr) (.cells #[.string p.1,.slice a1 p.2.length c1] 48)
    have q0:=cell_keep hbA (cell_keep HB.out q0)
    have q1:=cell_keep hbA (cell_keep HB.out q1)
    have HBA:=Lib.hid (bel_alloc (bel_alloc HB.out (.cells #[.string p.1,.slice a1 p.2.length c1] 48)) (.cells #[.string s.1,.slice b1 s.2.length d1] 48))
    have hj0:(0:Int)≤(j:Int):=by omega
    have hj1:(j:Int)<(n:Int):=by omega
    have HX:=Lib.hid (fun W (hb:Below w.heap.size w W)=>cSameR_any p s a1 b1 c1 d1 W (hpx.keep hb) (hsx.keep hb))
    have Hp:=Lib.hid hp
    have Hs:=Lib.hid hs
    clear hp hs hpx hsx hbA
    by_cases hps:p=s
    ·have HM:=Lib.hid (rows_more Hp.out Hs.out hps HT.out)
     rw [decide_eq_true hps] at HX
     clear hps
     go_wp2_with (go_at_fn 55;refine (HX.out _ HBA.out).mono ?_)
     rintro e w3 ⟨rfl,hb3⟩
     have HB3:=Lib.hid (below_more HBA.out hb3)
     clear hb3
     go_wp2_with fail
     exact ⟨⟨j+1,by omega,by go_num,HM,HB3⟩,by simp [intOf];omega⟩
    ·have hno:=rowsC_ne Hp.out Hs.out hps
     rw [HR.out] at hno
     subst hno
     rw [decide_eq_false hps] at HX
     clear hps
     go_wp2_with (go_at_fn 55;refine (HX.out _ HBA.out).mono ?_)
     rintro e w3 ⟨rfl,hb3⟩
     have HB3:=Lib.hid (below_more HBA.out hb3)
     clear hb3
     go_wp2_with fail
     go_ret
     exact ⟨rfl,HB3.out⟩
   ·have hj1:¬ (j:Int)<(n:Int):=by omega
    have hr:=HR.out
    rw [decide_eq_true (rows_all HN.out HK.out hjl HT.out)] at hr
    subst hr
    clear HT
    go_wp2_with fail
    go_ret
    exact ⟨rfl,HB.out⟩
 ·have hb:((n:Int) != (k:Int))=true:=bne_iff_ne.2 (by omega)
  have hno:decide (l=m)=false:=decide_eq_false (by rintro rfl;exact hnk (by rw [← hn,hk]))
  rw [HR.out] at hno
  subst hno
  clear hn hk hr hnk
  go_enter Tryz.func54,Tryz.ntmps54
  go_wp2_with fail
  go_ret
  exact ⟨rfl,Below.refl _ _⟩
/-! Maps. -/
theorem map_eq (a b:MapP):decide (a=b)=(decide (a.repos=b.repos) && decide (a.maps=b.maps)):=by
 obtain ⟨a1,a2⟩:=a
 obtain ⟨b1,b2⟩:=b
 rw [Bool.eq_iff_iff]
 simp
theorem cSame_any (M K:MapP) (v u:Value) (w:World) (h:MapAt w v M) (h2:MapAt w u K) :
 Calls Tryz.prog 25 #[v,u] w fun e w'=>e=.returned (.bool (decide (M=K)))∧Below w.heap.size w w':=by
 obtain ⟨a1,c1,a2,c2,rfl,hr1,hm1⟩:=h.parts
 obtain ⟨b1,d1,b2,d2,rfl,hr2,hm2⟩:=h2.parts
 rw [map_eq]
 obtain ⟨W,hW⟩:∃ W,W=(w.alloc (.cells #[.slice a1 M.repos.length c1,.slice a2 M.maps.length c2] 25)).alloc (.cells #[.slice b1 K.repos.length d1,.slice b2 K.maps.length d2] 25):=⟨_,rfl⟩
 have hBW:Below w.heap.size w W:=by rw [hW];exact bel_alloc (bel_alloc (Below.refl _ _) _) _
 have hA:BlkAt W w.heap.size 25 #[.slice a1 M.repos.length c1,.slice a2 M.maps.length c2]:=by rw [hW];exact (blkAt_newC w _ _).alloc _
 have hB:BlkAt W (w.heap.size+1) 25 #[.slice b1 K.repos.length d1,.slice b2 K.maps.length d2]:=by
  rw [hW]
  have:=blkAt_newC (w.alloc (.cells #[.slice a1 M.repos.length c1,.slice a2 M.maps.length c2] 25)) #[.slice b1 K.repos.length d1,.slice b2 K.maps.length d2] 25
  rwa [size_al] at this
 have HRS:=Lib.hid (cSameRs_any M.repos K.repos _ _ W (hr1.keep hBW) (hr2.keep hBW))
 have HMS:=Lib.hid (fun Y (hb:Below W.heap.size W Y)=>cSameXs_any M.maps K.maps _ _ Y ((hm1.keep hBW).keep hb) ((hm2.keep hBW).keep hb))
 obtain ⟨n1,hn1⟩:∃ n,M.repos.length=n:=⟨_,rfl⟩
 obtain ⟨n2,hn2⟩:∃ n,M.maps.length=n:=⟨_,rfl⟩
 obtain ⟨m1,hk1⟩:∃ n,K.repos.length=n:=⟨_,rfl⟩
 obtain ⟨m2,hk2⟩:∃ n,K.maps.length=n:=⟨_,rfl⟩
 obtain ⟨t1,ht1⟩:∃ t,decide (M.repos=K.repos)=t:=⟨_,rfl⟩
 obtain ⟨t2,ht2⟩:∃ t,decide (M.maps=K.maps)=t:=⟨_,rfl⟩
 rw [hn1,hn2] at hA hW ⊢
 rw [hk1,hk2] at hB hW ⊢
 rw [hn1,hk1,ht1] at HRS
 rw [hn2,hk2,ht2] at HMS
 rw [ht1,ht2]
 have HW:=Lib.hid hW
 have HBW:=Lib.hid hBW
 obtain ⟨p0,p1,pf⟩:=b2c hA
 obtain ⟨q0,q1,qf⟩:=b2c hB
 have HAB:=Lib.hid hA
 have HBB:=Lib.hid hB
 clear h h2 hr1 hm1 hr2 hm2 hn1 hn2 hk1 hk2 ht1 ht2 hW hBW hA hB
 cases t1 with
 | false =>
   go_enter Tryz.func25,Tryz.ntmps25
   go_wp2_with fail
   rw [← HW.out]
   refine HRS.out.mono ?_
   rintro e w2 ⟨rfl,hb2⟩
   have HB2:=Lib.hid hb2
   clear hb2
   go_wp2_with fail
   go_ret
   exact ⟨rfl,below_more HBW.out HB2.out⟩
 | true =>
   go_enter Tryz.func25,Tryz.ntmps25
   go_wp2_with fail
   rw [← HW.out]
   refine HRS.out.mono ?_
   rintro e w2 ⟨rfl,hb2⟩
   have HB2:=Lib.hid hb2
   obtain ⟨p0,p1,pf⟩:=b2c (HAB.out.keep hb2)
   obtain ⟨q0,q1,qf⟩:=b2c (HBB.out.keep hb2)
   clear hb2
   go_wp2_with fail
   refine (HMS.out _ HB2.out).mono ?_
   rintro e w3 ⟨rfl,hb3⟩
   have HB3:=Lib.hid (below_more (below_more HBW.out HB2.out) hb3)
   clear hb3
   go_wp2_with fail
   go_ret
   exact ⟨rfl,HB3.out⟩
end

section
set_option maxRecDepth 100000
open Go.RowKit
theorem mem_more {l:List ByteArray} {j:Nat} {p s:ByteArray} (hp:l[j]?=some p) (h:¬ p=s) (ht:s ∉ l.take j):s ∉ l.take (j+1):=by
 rw [List.take_add_one,hp]
 simp only [Option.toList_some,List.mem_append,List.mem_singleton,not_or]
 exact ⟨ht,fun e=>h e.symm⟩
theorem toList_iff {p s:ByteArray}:p.toList=s.toList↔p=s:=⟨fun h=>bytes_ext (by rw [← toList_data,← toList_data,h]),fun h=>by rw [h]⟩
theorem slIndex_any (l:List ByteArray) (s:ByteArray) (v:Value) (w:World) (h:StrsAt w v l) :
 Calls Tryz.prog 108 #[v,.string s] w fun e w'=>(∃ k:Int,e=.returned (.int .i64 k)∧(0≤k↔s ∈ l))∧w'=w:=by
 obtain ⟨a,c,rfl,hl,-,hc⟩:=h.parts
 obtain ⟨n,hn⟩:∃ n,l.length=n:=⟨_,rfl⟩
 rw [hn] at hl ⊢
 have HC:=Lib.hid hc
 have HN:=Lib.hid hn
 clear h hc hn
 go_enter Tryz.func108,Tryz.ntmps108
 go_wp2_with fail
 go_loop [8] (fun i=>∃ j:Nat,j≤n∧i=.int .i64 j∧Hid (s ∉ l.take j)) (fun i=>n - (intOf i).toNat)
 case atStart=>exact ⟨0,by omega,rfl,by show _ ∉ _;simp⟩
 case round =>
  obtain ⟨j,hj,rfl,HT⟩:=hrel
  by_cases hjl:j<n
  ·obtain ⟨p,hp⟩:∃ x,l[j]?=some x:=⟨_,List.getElem?_eq_getElem (by rw [HN.out];exact hjl)⟩
   obtain ⟨ab,ao,rfl,hcp⟩:=HC.out j p hp
   have hj0:(0:Int)≤(j:Int):=by omega
   have hj1:(j:Int)<(n:Int):=by omega
   have Hp:=Lib.hid hp
   clear hp
   by_cases hps:p=s
   ·have hpb:(s.toList == p.toList)=true:=by rw [hps];simp
    have HM:Hid (s ∈ l):=by rw [← hps];exact List.mem_of_getElem? Hp.out
    clear hps
    go_wp2_with fail
    go_ret
    exact ⟨⟨_,rfl,fun _=>HM.out,fun _=>hj0⟩,rfl⟩
   ·have hpb:(s.toList == p.toList)=false:=beq_eq_false_iff_ne.2 (fun e=>hps (toList_iff.1 e.symm))
    have HT2:=Lib.hid (mem_more Hp.out hps HT.out)
    clear hps
    go_wp2_with fail
    exact ⟨⟨j+1,by omega,by go_num,HT2⟩,by simp [intOf];omega⟩
  ·have hj1:¬ (j:Int)<(n:Int):=by omega
   have HM:Hid (s ∉ l):=by
    have:=HT.out
    rwa [List.take_of_length_le (by rw [HN.out];omega)] at this
   clear HT
   go_wp2_with fail
   go_ret
   exact ⟨⟨_,rfl,fun h=>absurd h (by decide),fun h=>absurd h HM.out⟩,rfl⟩
theorem slContains_any (l:List ByteArray) (s:ByteArray) (v:Value) (w:World) (h:StrsAt w v l) :
 Calls Tryz.prog 81 #[v,.string s] w fun e w'=>e=.returned (.bool (inL l s))∧w'=w:=by
 have HI:=Lib.hid (slIndex_any l s v w h)
 clear h
 go_enter Tryz.func81,Tryz.ntmps81
 go_wp2_with fail
 refine HI.out.mono ?_
 rintro e w2 ⟨⟨k,rfl,hk⟩,rfl⟩
 have HK:=Lib.hid hk
 clear hk
 go_wp2_with fail
 go_ret
 refine ⟨ret_bool ?_,rfl⟩
 rw [Bool.eq_iff_iff,inL_iff,← HK.out]
 simp
theorem wrClosure_any (nb:Nat) (n nm:ByteArray) (sl:Value) (w:World) (hn:w.cell? ⟨nb,0,none⟩=some (.string n)) :
 Calls Tryz.prog 79 (#[.agg #[.string nm,sl]] ++ #[.pointer (some ⟨nb,0,none⟩)]) w fun e w'=>e=.returned (.bool (nm.toList == n.toList))∧Below w.heap.size w w':=by
 have hb:Below w.heap.size w (w.alloc (.cells #[.string nm,sl] 48)):=bel_alloc (Below.refl _ _) _
 have hn2:=cell_keep hb hn
 have hlt:=cell_lt hn
 have HB:=Lib.hid hb
 clear hb
 go_enter Tryz.func79,Tryz.ntmps79
 go_wp2_with fail
 go_ret
 exact ⟨rfl,HB.out⟩
theorem names_more {l:List RepoP} {j:Nat} {p:RepoP} {s:ByteArray} (hp:l[j]?=some p) (h:¬ p.1=s) (ht:s ∉ namesR (l.take j)):s ∉ namesR (l.take (j+1)):=by
 unfold namesR at ht ⊢
 rw [List.take_add_one,hp,List.map_append]
 simp only [Option.toList_some,List.map_cons,List.map_nil,List.mem_append,List.mem_singleton,not_or]
 exact ⟨ht,fun e=>h e.symm⟩
theorem ixFunc_any (l:List RepoP) (nb:Nat) (n:ByteArray) (v:Value) (w:World) (h:ReposAt w v l) (hn:w.cell? ⟨nb,0,none⟩=some (.string n)) :
 Calls Tryz.prog 107 #[v,.func (.func 79) #[] #[.pointer (some ⟨nb,0,none⟩)]] w fun e w'=>(∃ k:Int,e=.returned (.int .i64 k)∧(0≤k↔n ∈ namesR l))∧Below w.heap.size w w':=by
 have eg:∀ args w,(callFunc 79 args).run Tryz.prog w=.ok (.enter 79 args) w:=enters_of Tryz.func79 (by kernel_rfl) rfl
 obtain ⟨a,c,rfl,hl,hc⟩:=h.at
 obtain ⟨m,hm⟩:∃ n,l.length=n:=⟨_,rfl⟩
 rw [hm] at hl ⊢
 have HC:=Lib.hid hc
 have HN:=Lib.hid hm
 have HNC:=Lib.hid hn
 clear h hc hm hn
 go_enter Tryz.func107,Tryz.ntmps107
 go_wp2_with fail
 go_loopw [8] (fun i wr=>∃ j:Nat,j≤m∧i=.int .i64 j∧Hid (n ∉ namesR (l.take j))∧Hid (Below w.heap.size w wr)) (fun i _=>m - (intOf i).toNat)
 case atStart=>exact ⟨0,by omega,rfl,by show _ ∉ _;simp [namesR],Below.refl _ _⟩
 case round =>
  obtain ⟨j,hj,rfl,HT,HB⟩:=hrel
  by_cases hjl:j<m
  ·obtain ⟨p,hp⟩:∃ x,l[j]?=some x:=⟨_,List.getElem?_eq_getElem (by rw [HN.out];exact hjl)⟩
   obtain ⟨ab,ao,a1,c1,rfl,p0,p1,-,-⟩:=HC.out j p hp
   have p0:=cell_keep HB.out p0
   have p1:=cell_keep HB.out p1
   have HX:=Lib.hid (wrClosure_any nb n p.1 (.slice a1 p.2.length c1) wr (cell_keep HB.out HNC.out))
   have hj0:(0:Int)≤(j:Int):=by omega
   have hj1:(j:Int)<(m:Int):=by omega
   have Hp:=Lib.hid hp
   clear hp
   by_cases hps:p.1=n
   ·have hpb:(p.1.toList == n.toList)=true:=by rw [hps];simp
    have HM:Hid (n ∈ namesR l):=by rw [← hps];exact List.mem_map.2 ⟨p,List.mem_of_getElem? Hp.out,rfl⟩
    rw [hpb] at HX
    clear hps hpb
    go_wp2_with (go_at_fn 79;refine HX.out.mono ?_)
    rintro e w3 ⟨rfl,hb3⟩
    have HB3:=Lib.hid (below_more HB.out hb3)
    clear hb3
    go_wp2_with fail
    go_ret
    exact ⟨⟨_,rfl,fun _=>HM.out,fun _=>hj0⟩,HB3.out⟩
   ·have hpb:(p.1.toList == n.toList)=false:=beq_eq_false_iff_ne.2 (fun e=>hps (toList_iff.1 e))
    have HT2:=Lib.hid (names_more Hp.out hps HT.out)
    rw [hpb] at HX
    clear hps hpb
    go_wp2_with (go_at_fn 79;refine HX.out.mono ?_)
    rintro e w3 ⟨rfl,hb3⟩
    have HB3:=Lib.hid (below_more HB.out hb3)
    clear hb3
    go_wp2_with fail
    exact ⟨⟨j+1,by omega,by go_num,HT2,HB3⟩,by simp [intOf];omega⟩
  ·have hj1:¬ (j:Int)<(m:Int):=by omega
   have HM:Hid (n ∉ namesR l):=by
    have:=HT.out
    rwa [List.take_of_length_le (by rw [HN.out];omega)] at this
   clear HT
   go_wp2_with fail
   go_ret
   exact ⟨⟨_,rfl,fun h=>absurd h (by decide),fun h=>absurd h HM.out⟩,HB.out⟩
theorem coFunc_any (l:List RepoP) (nb:Nat) (n:ByteArray) (v:Value) (w:World) (h:ReposAt w v l) (hn:w.cell? ⟨nb,0,none⟩=some (.string n)) :
 Calls Tryz.prog 80 #[v,.func (.func 79) #[] #[.pointer (some ⟨nb,0,none⟩)]] w fun e w'=>e=.returned (.bool (inL (namesR l) n))∧Below w.heap.size w w':=by
 have HI:=Lib.hid (ixFunc_any l nb n v w h hn)
 clear h hn
 go_enter Tryz.func80,Tryz.ntmps80
 go_wp2_with fail
 refine HI.out.mono ?_
 rintro e w2 ⟨⟨k,rfl,hk⟩,hb⟩
 have HK:=Lib.hid hk
 have HB:=Lib.hid hb
 clear hk hb
 go_wp2_with fail
 go_ret
 refine ⟨ret_bool ?_,HB.out⟩
 rw [Bool.eq_iff_iff,inL_iff,← HK.out]
 simp
theorem wrongGo_step {R:List ByteArray} {l:List ByteArray} {j:Nat} {s:ByteArray} (hs:l[j]?=some s):wrongGo R (l.take j) (l.drop j)=if inL R s=false then 6 else if inL (l.take j) s=true then 7 else wrongGo R (l.take (j+1)) (l.drop (j+1)):=by
 obtain ⟨h1,h2⟩:=List.getElem?_eq_some_iff.1 hs
 rw [List.drop_eq_getElem_cons h1,h2,wrongGo,List.take_add_one,hs]
 rfl
theorem StrsAt.front {w:World} {a:Option Addr} {n c:Nat} {l:List ByteArray} (h:StrsAt w (.slice a n c) l) (hn:l.length=n) (j:Nat) (hj:j≤n) (c':Nat):StrsAt w (.slice a j c') (l.take j):=by
 obtain ⟨h1,h2,h3⟩:=h
 refine ⟨fun s hs=>h1 s (List.mem_of_mem_take hs),by rw [List.length_take];omega,?_⟩
 by_cases h0:j=0
 ·subst h0
  exact Or.inl ⟨by simp,a,c',rfl⟩
 ·rcases h3 with ⟨rfl,-⟩ | ⟨b,o,cap,e,hc⟩
  ·simp at hn;omega
  ·simp only [Value.slice.injEq] at e
   obtain ⟨rfl,-,-⟩:=e
   refine Or.inr ⟨b,o,c',by rw [List.length_take,Nat.min_eq_left (by omega)],fun i s hi=>?_⟩
   have hil:=(List.getElem?_eq_some_iff.1 hi).1
   rw [List.length_take] at hil
   rw [List.getElem?_take_of_lt (by omega)] at hi
   exact hc i s hi
theorem wrongRepos_any (l:List ByteArray) (R:List RepoP) (a:Option Addr) (n c:Nat) (u:Value) (w:World) (hn:l.length=n) (h:StrsAt w (.slice a n c) l) (hcap:n≤c) (h2:ReposAt w u R) :
 Calls Tryz.prog 50 #[.slice a n c,u] w fun e w'=>e=.returned (.int .i64 (wrongReposV l (namesR R)))∧Below w.heap.size w w':=by
 obtain ⟨a',c',e0,hl,hm,hc⟩:=h.parts
 simp only [Value.slice.injEq] at e0
 obtain ⟨rfl,-,-⟩:=e0
 rw [hn] at hl
 obtain ⟨r,hr⟩:∃ r,wrongReposV l (namesR R)=r:=⟨_,rfl⟩
 rw [hr]
 unfold wrongReposV at hr
 obtain ⟨b1,d1,rfl,-,-⟩:=h2.at
 have HS:=Lib.hid h
 have HQ:=Lib.hid h2
 have HC:=Lib.hid hc
 have HM:=Lib.hid hm
 have HN:=Lib.hid hn
 obtain ⟨rn,hrn⟩:∃ n,R.length=n:=⟨_,rfl⟩
 rw [hrn] at HQ ⊢
 clear h h2 hc hm hn hrn
 by_cases hz:n=0
 ·subst hz
  have hl0:l=[]:=List.eq_nil_of_length_eq_zero HN.out
  rw [if_pos hl0] at hr
  subst hr
  clear HC HM HN hl0
  go_enter Tryz.func50,Tryz.ntmps50
  go_wp2_with fail
  go_ret
  exact ⟨rfl,Below.refl _ _⟩
 ·have hl0:l≠[]:=fun e=>hz (by rw [← HN.out,e];rfl)
  rw [if_neg hl0] at hr
  have g2:((n:Int) == 0)=false:=beq_eq_false_iff_ne.2 (by omega)
  have HR:=Lib.hid hr
  clear hr hl0 hz
  have hmf:∀ (fn:Fn) (first cap:Array Value) (w:World),(Instr.makeFunc fn first cap).run Tryz.prog w=.ok (.func fn first cap) w:=fun _ _ _ _=>rfl
  go_enter Tryz.func50,Tryz.ntmps50
  go_wp2_with fail
  go_loopw [13] (fun i wr=>∃ k:Nat,k≤n∧i=.int .i64 k∧Hid (wrongGo (namesR R) (l.take k) (l.drop k)=r)∧Hid (Below w.heap.size w wr)) (fun i _=>n - (intOf i).toNat)
  case atStart=>exact ⟨0,by omega,rfl,HR.out,Below.refl _ _⟩
  case round =>
   obtain ⟨k,hk,rfl,HG,HB⟩:=hrel
   by_cases hlt:k<n
   ·obtain ⟨s,hs⟩:∃ s,l[k]?=some s:=⟨_,List.getElem?_eq_getElem (by rw [HN.out];exact hlt)⟩
    obtain ⟨b,o,rfl,hcs⟩:=HC.out k s hs
    have hcs2:=cell_keep HB.out hcs
    have j0:(0:Int)≤(k:Int):=by omega
    have j1:(k:Int)<(n:Int):=by omega
    have j2:(k:Int)≤(c:Int):=by omega
    have j3:((k:Int)).toNat=k:=by omega
    have hg:=HG.out
    rw [wrongGo_step hs] at hg
    have HBA:=Lib.hid (bel_alloc HB.out (.cells #[.string s] 9))
    have hbk:BlkAt (wr.alloc (.cells #[.string s] 9)) wr.heap.size 9 #[.string s]:=blkAt_newC wr _ _
    have HCO:=Lib.hid (coFunc_any R wr.heap.size s (.slice b1 rn d1) _ (HQ.out.keep HBA.out) (hbk.cell 0))
    have HBK:=Lib.hid hbk
    have HSF:=Lib.hid (HS.out.front HN.out k hk c)
    clear hs hcs HG hbk
    cases hin:inL (namesR R) s with
    | false =>
      rw [if_pos hin] at hg
      subst hg
      rw [hin] at HCO
      clear hin
      go_wp2_with fail
      refine HCO.out.mono ?_
      rintro e w3 ⟨rfl,hb3⟩
      have HB3:=Lib.hid (below_more HBA.out hb3)
      clear hb3
      go_wp2_with fail
      go_ret
      exact ⟨rfl,HB3.out⟩
    | true =>
      rw [if_neg (by rw [hin];decide)] at hg
      rw [hin] at HCO
      clear hin
      cases hin2:inL (l.take k) s with
      | true =>
        rw [if_pos hin2] at hg
        subst hg
        go_wp2_with fail
        refine HCO.out.mono ?_
        rintro e w3 ⟨rfl,hb3⟩
        have HB3:=Lib.hid (below_more HBA.out hb3)
        have c3:=(BlkAt.keep HBK.out hb3).cell 0
        have HCN:=Lib.hid (fun q=>slContains_any (l.take k) s (.slice (some ⟨b,o,none⟩) k c) (w3.drewN q) ((HSF.out.keep HB3.out).keep (below_drewN (Below.refl _ _) q)))
        rw [hin2] at HCN
        clear hb3 hin2
        go_wp2_with fail
        go_quiet ((go_at_call 81;exact Calls.quiet_of_same (HCN.out _)))
        go_wp2_with fail
        go_ret
        exact ⟨rfl,below_drewN HB3.out _⟩
      | false =>
        rw [if_neg (by rw [hin2];decide)] at hg
        have HG2:=Lib.hid hg
        clear hg
        go_wp2_with fail
        refine HCO.out.mono ?_
        rintro e w3 ⟨rfl,hb3⟩
        have HB3:=Lib.hid (below_more HBA.out hb3)
        have c3:=(BlkAt.keep HBK.out hb3).cell 0
        have HCN:=Lib.hid (fun q=>slContains_any (l.take k) s (.slice (some ⟨b,o,none⟩) k c) (w3.drewN q) ((HSF.out.keep HB3.out).keep (below_drewN (Below.refl _ _) q)))
        rw [hin2] at HCN
        clear hb3 hin2
        go_wp2_with fail
        go_quiet ((go_at_call 81;exact Calls.quiet_of_same (HCN.out _)))
        go_wp2_with fail
        exact ⟨⟨k+1,by omega,by go_num,HG2,below_drewN HB3.out _⟩,by simp [intOf];omega⟩
   ·have hg:=HG.out
    rw [List.drop_of_length_le (by rw [HN.out];omega),wrongGo] at hg
    subst hg
    have j1:¬ (k:Int)<(n:Int):=by omega
    clear HG
    go_wp2_with fail
    go_ret
    exact ⟨rfl,HB.out⟩
end

section
set_option maxRecDepth 100000
open Go.RowKit
theorem b5t {w:World} {b:Nat} {T:TypeId} {v0 v1 v2 v3 v4:Value} (h:BlkAt w b T #[v0,v1,v2,v3,v4]) :
 w.cell? ⟨b,0,none⟩=some v0∧w.cell? ⟨b,1,none⟩=some v1∧w.cell? ⟨b,2,none⟩=some v2∧w.cell? ⟨b,3,none⟩=some v3∧w.cell? ⟨b,4,none⟩=some v4∧∀ i,w.frozen? ⟨b,i,none⟩=false:=⟨h.cell 0,h.cell 1,h.cell 2,h.cell 3,h.cell 4,h.free⟩
theorem textOf25_any (s:ByteArray) (w:World) :
 Calls Tryz.prog 47 #[.string s] w fun e w'=>e=.returned (.agg #[.int .u8 3,.int .i64 0,.string s,.slice none 0 0,.slice none 0 0])∧Below w.heap.size w w':=by
 have HB:Hid (∀ cs,Below w.heap.size w (w.alloc (.cells cs 29))):=fun cs=>bel_alloc (Below.refl _ _) _
 obtain ⟨q0,q1,q2,q3,q4,-⟩:=b5t (blkAt_newC w #[.int .u8 3,.int .i64 0,.string s,.slice none 0 0,.slice none 0 0] 29)
 go_enter Tryz.func47,Tryz.ntmps47
 go_wp2_with fail
 exact bodyPost_ret (v:=.agg #[.int .u8 3,.int .i64 0,.string s,.slice none 0 0,.slice none 0 0]) (by simp [results,Tryz.results47,go_sem,q0,q1,q2,q3,q4]) rfl ⟨rfl,HB.out _⟩
theorem may_text (s:ByteArray):mayB (.mk 3 0 s [] [])=writ s:=by
 unfold mayB
 rw [mayV_eq]
 have hp:properB (.mk 3 0 s [] [])=writ s:=by simp [properB]
 rw [hp]
 cases h:writ s with
 | true=>simp [JV.k]
 | false=>simp
theorem mayURLs_any (l:List ByteArray) (v:Value) (w:World) (h:StrsAt w v l) :
 Calls Tryz.prog 19 #[v] w fun e w'=>e=.returned (.bool (urlsB l))∧Below w.heap.size w w':=by
 obtain ⟨a,cap,rfl,hl,hm,hc⟩:=h.parts
 obtain ⟨n,hn⟩:∃ n,l.length=n:=⟨_,rfl⟩
 obtain ⟨r,hr⟩:∃ r,urlsB l=r:=⟨_,rfl⟩
 rw [hn] at hl ⊢
 rw [hr]
 unfold urlsB at hr
 rw [hn] at hr
 have HC:=Lib.hid hc
 have HM:=Lib.hid hm
 have HN:=Lib.hid hn
 clear h hc hm hn
 by_cases h8:8<n
 ·obtain rfl:false=r:=by rw [← hr,decide_eq_false (by omega)];rfl
  have g1:(8:Int)<(n:Int):=by omega
  clear hr
  go_enter Tryz.func19,Tryz.ntmps19
  go_wp2_with fail
  go_ret
  exact ⟨rfl,Below.refl _ _⟩
 ·have hr2:l.all writ=r:=by rw [← hr,decide_eq_true (by omega)];rfl
  have g1:¬ (8:Int)<(n:Int):=by omega
  have HR:=Lib.hid hr2
  clear hr hr2 h8
  go_enter Tryz.func19,Tryz.ntmps19
  go_wp2_with fail
  go_loopw [10] (fun i wr=>∃ k:Nat,k≤n∧i=.int .i64 k∧Hid ((l.take k).all writ=true)∧Hid (Below w.heap.size w wr)) (fun i _=>n - (intOf i).toNat)
  case atStart=>exact ⟨0,by omega,rfl,by show _=_;simp,Below.refl _ _⟩
  case round =>
   obtain ⟨k,hk,rfl,HA,HB⟩:=hrel
   by_cases hlt:k<n
   ·obtain ⟨s,hs⟩:∃ s,l[k]?=some s:=⟨_,List.getElem?_eq_getElem (by rw [HN.out];exact hlt)⟩
    obtain ⟨b,o,rfl,hcs⟩:=HC.out k s hs
    have hcs2:=cell_keep HB.out hcs
    have hz:=HM.out s (List.mem_of_getElem? hs)
    have HT:=Lib.hid (fun W=>textOf25_any s W)
    have HP:=Lib.hid (fun W=>May_any (.mk 3 0 s [] []) (.agg #[.int .u8 3,.int .i64 0,.string s,.slice none 0 0,.slice none 0 0]) W (valAt_leaf W 3 0 s (by decide) (by decide) (by decide) (by decide) hz))
    rw [may_text] at HP
    have j0:(0:Int)≤(k:Int):=by omega
    have j1:(k:Int)<(n:Int):=by omega
    by_cases hp:writ s=true
    ·have HA2:=Lib.hid (allB_more hs HA.out hp)
     rw [hp] at HP
     clear hs hcs hz hp HA
     go_wp2_with fail
     refine (HT.out _).mono ?_
     rintro e w2 ⟨rfl,hb⟩
     have HB2:=Lib.hid (below_more HB.out hb)
     clear hb
     go_wp2_with fail
     refine (HP.out _).mono ?_
     rintro e w3 ⟨rfl,hb⟩
     have HB3:=Lib.hid (below_more HB2.out hb)
     clear hb
     go_wp2_with fail
     exact ⟨⟨k+1,by omega,by go_num,HA2,HB3⟩,by simp [intOf];omega⟩
    ·have hp':writ s=false:=by simpa using hp
     have hno:l.all writ=false:=List.all_eq_false.2 ⟨s,List.mem_of_getElem? hs,by simp [hp']⟩
     rw [HR.out] at hno
     subst hno
     rw [hp'] at HP
     clear hs hcs hz hp hp' HA
     go_wp2_with fail
     refine (HT.out _).mono ?_
     rintro e w2 ⟨rfl,hb⟩
     have HB2:=Lib.hid (below_more HB.out hb)
     clear hb
     go_wp2_with fail
     refine (HP.out _).mono ?_
     rintro e w3 ⟨rfl,hb⟩
     have HB3:=Lib.hid (below_more HB2.out hb)
     clear hb
     go_wp2_with fail
     go_ret
     exact ⟨rfl,HB3.out⟩
   ·have hall:=HA.out
    rw [List.take_of_length_le (by rw [HN.out];omega),HR.out] at hall
    subst hall
    have j1:¬ (k:Int)<(n:Int):=by omega
    clear HA
    go_wp2_with fail
    go_ret
    exact ⟨rfl,HB.out⟩
theorem cWrong_any (x:MapgP) (R:List RepoP) (a1 a2:Option Addr) (c1 c2:Nat) (u:Value) (w:World) (h1:StrsAt w (.slice a1 x.paths.length c1) x.paths) (h2:StrsAt w (.slice a2 x.repos.length c2) x.repos) (hcap:x.repos.length≤c2) (hR:ReposAt w u R) :
 Calls Tryz.prog 20 #[.agg #[.slice a1 x.paths.length c1,.slice a2 x.repos.length c2,.bool x.term,.int .i64 x.thr],u,.int .i64 0] w fun e w'=>e=.returned (.int .i64 (wrongV x (namesR R)))∧Below w.heap.size w w':=by
 obtain ⟨xp,xr,xt,xh⟩:=x
 simp only at h1 h2 hcap ⊢
 obtain ⟨b1,d1,rfl,-,-⟩:=hR.at
 obtain ⟨rn,hrn⟩:∃ n,R.length=n:=⟨_,rfl⟩
 obtain ⟨np,hnp⟩:∃ n,xp.length=n:=⟨_,rfl⟩
 obtain ⟨nr,hnr⟩:∃ n,xr.length=n:=⟨_,rfl⟩
 obtain ⟨r,hr⟩:∃ r,wrongV ⟨xp,xr,xt,xh⟩ (namesR R)=r:=⟨_,rfl⟩
 rw [hr]
 unfold wrongV at hr
 simp only at hr
 rw [hrn] at hR ⊢
 rw [hnp] at h1 ⊢
 rw [hnr] at h2 hcap hr ⊢
 obtain ⟨W,hW⟩:∃ W,W=w.alloc (.cells #[.slice a1 np c1,.slice a2 nr c2,.bool xt,.int .i64 xh] 55):=⟨_,rfl⟩
 have hBW:Below w.heap.size w W:=by rw [hW];exact bel_alloc (Below.refl _ _) _
 have HA:Hid (BlkAt W w.heap.size 55 #[.slice a1 np c1,.slice a2 nr c2,.bool xt,.int .i64 xh]):=by rw [hW];exact blkAt_newC w _ _
 have HP:=Lib.hid (wrongPaths_any xp _ W (h1.keep hBW))
 have HQ:=Lib.hid (fun Y (hb:Below W.heap.size W Y)=>wrongRepos_any xr R a2 nr c2 _ Y hnr ((h2.keep hBW).keep hb) hcap ((hR.keep hBW).keep hb))
 obtain ⟨e1,he1⟩:∃ e,wrongPathsV xp=e:=⟨_,rfl⟩
 obtain ⟨e2,he2⟩:∃ e,wrongReposV xr (namesR R)=e:=⟨_,rfl⟩
 rw [he1] at HP hr
 rw [he2] at HQ hr
 have HW:=Lib.hid hW
 have HBW:=Lib.hid hBW
 clear hR h1 h2 hrn hnp hnr he1 he2 hW hBW
 by_cases z1:e1=0
 ·subst z1
  rw [if_neg (by simp)] at hr
  by_cases z2:e2=0
  ·subst z2
   rw [if_neg (by simp)] at hr
   by_cases t1:xh<1
   ·have g1:decide (xh<1)=true:=decide_eq_true t1
    rw [if_pos (Or.inl t1)] at hr
    subst hr
    obtain ⟨p0,p1,p2,p3,pf⟩:=b4' HA.out
    go_enter Tryz.func20,Tryz.ntmps20
    go_wp2_with fail
    rw [← HW.out]
    refine HP.out.mono ?_
    rintro e w2 ⟨rfl,hb2⟩
    have HB2:=Lib.hid hb2
    obtain ⟨p0,p1,p2,p3,pf⟩:=b4' (BlkAt.keep HA.out hb2)
    clear hb2
    go_wp2_with fail
    refine (HQ.out _ HB2.out).mono ?_
    rintro e w3 ⟨rfl,hb3⟩
    obtain ⟨p0,p1,p2,p3,pf⟩:=b4' (BlkAt.keep HA.out (below_more HB2.out hb3))
    have HB3:=Lib.hid (below_more (below_more HBW.out HB2.out) hb3)
    clear hb3
    go_wp2_with fail
    go_ret
    exact ⟨rfl,HB3.out⟩
   ·have g1:decide (xh<1)=false:=decide_eq_false t1
    by_cases t2:(nr:Int)<xh
    ·have g2:decide ((nr:Int)<xh)=true:=decide_eq_true t2
     rw [if_pos (Or.inr t2)] at hr
     subst hr
     obtain ⟨p0,p1,p2,p3,pf⟩:=b4' HA.out
     go_enter Tryz.func20,Tryz.ntmps20
     go_wp2_with fail
     rw [← HW.out]
     refine HP.out.mono ?_
     rintro e w2 ⟨rfl,hb2⟩
     have HB2:=Lib.hid hb2
     obtain ⟨p0,p1,p2,p3,pf⟩:=b4' (BlkAt.keep HA.out hb2)
     clear hb2
     go_wp2_with fail
     refine (HQ.out _ HB2.out).mono ?_
     rintro e w3 ⟨rfl,hb3⟩
     obtain ⟨p0,p1,p2,p3,pf⟩:=b4' (BlkAt.keep HA.out (below_more HB2.out hb3))
     have HB3:=Lib.hid (below_more (below_more HBW.out HB2.out) hb3)
     clear hb3
     go_wp2_with fail
     go_ret
     exact ⟨rfl,HB3.out⟩
    ·have g2:decide ((nr:Int)<xh)=false:=decide_eq_false t2
     rw [if_neg (by omega)] at hr
     subst hr
     obtain ⟨p0,p1,p2,p3,pf⟩:=b4' HA.out
     go_enter Tryz.func20,Tryz.ntmps20
     go_wp2_with fail
     rw [← HW.out]
     refine HP.out.mono ?_
     rintro e w2 ⟨rfl,hb2⟩
     have HB2:=Lib.hid hb2
     obtain ⟨p0,p1,p2,p3,pf⟩:=b4' (BlkAt.keep HA.out hb2)
     clear hb2
     go_wp2_with fail
     refine (HQ.out _ HB2.out).mono ?_
     rintro e w3 ⟨rfl,hb3⟩
     obtain ⟨p0,p1,p2,p3,pf⟩:=b4' (BlkAt.keep HA.out (below_more HB2.out hb3))
     have HB3:=Lib.hid (below_more (below_more HBW.out HB2.out) hb3)
     clear hb3
     go_wp2_with fail
     go_ret
     exact ⟨rfl,HB3.out⟩
  ·have g2:(e2 != 0)=true:=bne_iff_ne.2 z2
   rw [if_pos z2] at hr
   subst hr
   clear z2
   obtain ⟨p0,p1,p2,p3,pf⟩:=b4' HA.out
   go_enter Tryz.func20,Tryz.ntmps20
   go_wp2_with fail
   rw [← HW.out]
   refine HP.out.mono ?_
   rintro e w2 ⟨rfl,hb2⟩
   have HB2:=Lib.hid hb2
   obtain ⟨p0,p1,p2,p3,pf⟩:=b4' (BlkAt.keep HA.out hb2)
   clear hb2
   go_wp2_with fail
   refine (HQ.out _ HB2.out).mono ?_
   rintro e w3 ⟨rfl,hb3⟩
   have HB3:=Lib.hid (below_more (below_more HBW.out HB2.out) hb3)
   clear hb3
   go_wp2_with fail
   go_ret
   exact ⟨rfl,HB3.out⟩
 ·have g1:(e1 != 0)=true:=bne_iff_ne.2 z1
  rw [if_pos z1] at hr
  subst hr
  clear z1
  obtain ⟨p0,p1,p2,p3,pf⟩:=b4' HA.out
  go_enter Tryz.func20,Tryz.ntmps20
  go_wp2_with fail
  rw [← HW.out]
  refine HP.out.mono ?_
  rintro e w2 ⟨rfl,hb2⟩
  have HB2:=Lib.hid (below_more HBW.out hb2)
  clear hb2
  go_wp2_with fail
  go_ret
  exact ⟨rfl,HB2.out⟩
end
end Go.Proofs.YtchinankclckjaaGreatDoor
