/-
  legatelaw25.Long: how much there is in maps.
  legatelaw25.Long: the walk.
  What the laws of maps share: what For gives, what Long says.
  The walk of ChartElse.
-/
import Derived.Test.YtchinankclckjaaGreatDoorChartS
import Derived.Test.YtchinankclckjaaGreatDoorChartD
import Derived.BigQuiet
import Derived.Test.YtchinankclckjaaGreatDoorChartAw
import Derived.Test.YtchinankclckjaaGreatDoorChartElJ
import Derived.Test.YtchinankclckjaaGreatDoorLiveRd
import Derived.Test.YtchinankclckjaaGreatDoorChartB2
import Derived.Deep.DeepCutAuto
namespace Go.Proofs.YtchinankclckjaaGreatDoor
set_option maxHeartbeats 16000000
section
open Go.RowKit
def reposLg:Nat→List RepoP→Nat
 | n,[]=>n
 | n,r :: l=>if n<20000 then reposLg (n+5+min 20000 r.1.size+textsN r.2) l else n
def mapsLg:Nat→List MapgP→Nat
 | n,[]=>n
 | n,x :: l=>if n<20000 then mapsLg (n+5+textsN x.paths+textsN x.repos) l else n
def longLg:Nat→List MapP→Nat
 | n,[]=>n
 | n,M :: l=>longLg (mapsLg (reposLg n M.repos) M.maps) l
theorem reposLg_step {l:List RepoP} {k n:Nat} {r:RepoP} (h:l[k]?=some r):reposLg n (l.drop k)=if n<20000 then reposLg (n+5+min 20000 r.1.size+textsN r.2) (l.drop (k+1)) else n:=by
 obtain ⟨h1,h2⟩:=List.getElem?_eq_some_iff.1 h
 rw [List.drop_eq_getElem_cons h1,h2,reposLg]
theorem mapsLg_step {l:List MapgP} {k n:Nat} {x:MapgP} (h:l[k]?=some x):mapsLg n (l.drop k)=if n<20000 then mapsLg (n+5+textsN x.paths+textsN x.repos) (l.drop (k+1)) else n:=by
 obtain ⟨h1,h2⟩:=List.getElem?_eq_some_iff.1 h
 rw [List.drop_eq_getElem_cons h1,h2,mapsLg]
theorem longLg_step {l:List MapP} {k n:Nat} {M:MapP} (h:l[k]?=some M):longLg n (l.drop k)=longLg (mapsLg (reposLg n M.repos) M.maps) (l.drop (k+1)):=by
 obtain ⟨h1,h2⟩:=List.getElem?_eq_some_iff.1 h
 rw [List.drop_eq_getElem_cons h1,h2,longLg]
theorem textsGo_le:∀ (l:List ByteArray) (n:Nat),n≤40005→textsGo n l≤40005
 | [],n,h=>h
 | s :: l,n,h=>by
   rw [textsGo]
   split
   ·exact textsGo_le l _ (by omega)
   ·exact h
theorem textsN_le (l:List ByteArray):textsN l≤40005:=textsGo_le l 0 (by decide)
theorem reposLg_le:∀ (l:List RepoP) (n:Nat),n≤200000→reposLg n l≤200000
 | [],n,h=>h
 | s :: l,n,h=>by
   rw [reposLg]
   split
   ·have:=textsN_le s.2
    exact reposLg_le l _ (by omega)
   ·exact h
theorem mapsLg_le:∀ (l:List MapgP) (n:Nat),n≤200000→mapsLg n l≤200000
 | [],n,h=>h
 | s :: l,n,h=>by
   rw [mapsLg]
   split
   ·have:=textsN_le s.paths
    have:=textsN_le s.repos
    exact mapsLg_le l _ (by omega)
   ·exact h
end

section
set_option maxRecDepth 100000
open Go.RowKit
def LongAt (w:World) (v:Value) (Ms:List MapP):Prop:=Ms.length≤1000∧∃ b o c,v=.slice (some ⟨b,o,none⟩) Ms.length c∧∀ i M,Ms[i]?=some M→∃ a1 c1 a2 c2,w.cell? ⟨b,o+i*2,none⟩=some (.slice a1 M.repos.length c1)∧w.cell? ⟨b,o+i*2+1,none⟩=some (.slice a2 M.maps.length c2)∧ReposAt w (.slice a1 M.repos.length c1) M.repos∧MapsAt w (.slice a2 M.maps.length c2) M.maps
theorem Long_any (Ms:List MapP) (v:Value) (w:World) (h:LongAt w v Ms) :
 Calls Tryz.prog 4 #[v] w fun e w'=>e=.returned (.bool (decide (20000≤longLg 0 Ms)))∧Below w.heap.size w w':=by
 obtain ⟨hN3,b,off,c,rfl,hc⟩:=h
 obtain ⟨N,hN⟩:∃ n,Ms.length=n:=⟨_,rfl⟩
 obtain ⟨R,hR⟩:∃ R,longLg 0 Ms=R:=⟨_,rfl⟩
 rw [hN] at hN3 ⊢
 rw [hR]
 have HR:Hid (longLg 0 (Ms.drop 0)=R):=hR
 have HC:=Lib.hid hc
 have HN:=Lib.hid hN
 clear hc hN hR
 go_enter Tryz.func4,Tryz.ntmps4
 go_wp2_with fail
 go_loopw [3,4] (fun nv i wr=>∃ k m:Nat,k≤N∧nv=.int .i64 m∧i=.int .i64 k∧m≤200000∧Hid (longLg m (Ms.drop k)=R)∧Hid (Below w.heap.size w wr)) (fun _ i _=>N - (intOf i).toNat)
 case atStart=>exact ⟨0,0,by omega,rfl,rfl,by omega,HR.out,Below.refl _ _⟩
 case round =>
  obtain ⟨k,m,hk,rfl,rfl,hm,HT,HB⟩:=hrel
  by_cases hkN:k<N
  ·obtain ⟨M,hM⟩:∃ s,Ms[k]?=some s:=⟨_,List.getElem?_eq_getElem (by rw [HN.out];exact hkN)⟩
   obtain ⟨ra,rc,ma,mc,p0,p1,hr,hm2⟩:=HC.out k M hM
   obtain ⟨ra',rc',e0,hrl,hrc⟩:=hr.at
   simp only [Value.slice.injEq,true_and] at e0
   obtain ⟨rfl,rfl⟩:=e0
   obtain ⟨ma',mc',e1,hml,hmc⟩:=hm2.at
   simp only [Value.slice.injEq,true_and] at e1
   obtain ⟨rfl,rfl⟩:=e1
   have hst:=HT.out
   rw [longLg_step hM] at hst
   obtain ⟨rs,hrs⟩:∃ x,M.repos=x:=⟨_,rfl⟩
   obtain ⟨ms,hms⟩:∃ x,M.maps=x:=⟨_,rfl⟩
   rw [hrs] at hst p0 hr hrl hrc
   rw [hms] at hst p1 hm2 hml hmc
   obtain ⟨n1,hn1⟩:∃ n,rs.length=n:=⟨_,rfl⟩
   obtain ⟨n2,hn2⟩:∃ n,ms.length=n:=⟨_,rfl⟩
   rw [hn1] at p0 hrl
   rw [hn2] at p1 hml
   have i0:(0:Int)≤(k:Int):=by omega
   have i1:(k:Int)<(N:Int):=by omega
   have HST:=Lib.hid hst
   have HRC:=Lib.hid hrc
   have HMC:=Lib.hid hmc
   have HN1:=Lib.hid hn1
   have HN2:=Lib.hid hn2
   obtain ⟨x1,hx1⟩:∃ x,reposLg m rs=x:=⟨_,rfl⟩
   have hx1b:x1≤200000:=by rw [← hx1];exact reposLg_le _ _ hm
   rw [hx1] at hst
   obtain ⟨x2,hx2⟩:∃ x,mapsLg x1 ms=x:=⟨_,rfl⟩
   have hx2b:x2≤200000:=by rw [← hx2];exact mapsLg_le _ _ hx1b
   rw [hx2] at hst
   have HST:=Lib.hid hst
   have HX1:Hid (reposLg m (rs.drop 0)=x1):=hx1
   have HX2:Hid (mapsLg x1 (ms.drop 0)=x2):=hx2
   have PB0:=Lib.hid p0
   have PB1:=Lib.hid p1
   clear hM hr hm2 hrc hmc hst hn1 hn2 hx1 hx2 hrs hms HT
   have p0':=cell_keep HB.out p0
   have p1':=cell_keep HB.out p1
   go_wp2_with fail
   go_loopw [3,5] (fun nv i wr=>∃ j q:Nat,j≤n1∧nv=.int .i64 q∧i=.int .i64 j∧q≤200000∧Hid (reposLg q (rs.drop j)=x1)∧Hid (Below w.heap.size w wr)) (fun _ i _=>n1 - (intOf i).toNat)
   case atStart=>exact ⟨0,m,by omega,rfl,rfl,hm,HX1.out,HB.out⟩
   case round =>
    obtain ⟨j,q,hj,rfl,rfl,hq,HT1,HB1⟩:=hrel
    have p0:=cell_keep HB1.out p0
    have p1:=cell_keep HB1.out p1
    clear p0' p1'
    by_cases hjn:j<n1
    ·obtain ⟨r,hr⟩:∃ s,rs[j]?=some s:=⟨_,List.getElem?_eq_getElem (by rw [HN1.out];exact hjn)⟩
     obtain ⟨xb,xo,a1,c1,rfl,t0,t1,hsz,s1⟩:=HRC.out j r hr
     have t0:=cell_keep HB1.out t0
     have t1:=cell_keep HB1.out t1
     have hst1:=HT1.out
     rw [reposLg_step hr] at hst1
     have j0:(0:Int)≤(j:Int):=by omega
     have j1:(j:Int)<(n1:Int):=by omega
     have j2:decide ((j:Int)<(n1:Int))=true:=decide_eq_true j1
     have j2':decide (j<n1)=true:=decide_eq_true hjn
     by_cases hqq:q<20000
     ·rw [if_pos hqq] at hst1
      have g1:decide ((q:Int)<20000)=true:=decide_eq_true (by omega)
      have g1':decide (q<20000)=true:=decide_eq_true hqq
      have HTX:=Lib.hid (fun W (hb:Below w.heap.size w W)=>(texts_any r.2 _ W (s1.keep hb)).mono fun e w' h=>(⟨h.1,h.2.symm⟩:_∧w'=W))
      have b1:=textsN_le r.2
      obtain ⟨T,hT⟩:∃ t,textsN r.2=t:=⟨_,rfl⟩
      rw [hT] at HTX b1 hst1
      obtain ⟨l1,hl1⟩:∃ t,r.2.length=t:=⟨_,rfl⟩
      rw [hl1] at t1 HTX
      obtain ⟨y,hy⟩:∃ z,r.1.size=z:=⟨_,rfl⟩
      rw [hy] at hst1 hsz
      obtain ⟨nm,hnm⟩:∃ z,r.1=z:=⟨_,rfl⟩
      rw [hnm] at t0 hy
      unfold maxLen at hsz
      obtain ⟨u,hu⟩:∃ q,min 20000 y=q:=⟨_,rfl⟩
      rw [hu] at hst1
      have hui:min (20000:Int) (y:Int)=(u:Int):=by omega
      have hu2:u≤20000:=by omega
      have w1:IntKind.i64.wrap ((q:Int)+5)=(q:Int)+5:=IntWalk.i64_in _ (by omega)
      have w2:IntKind.i64.wrap ((q:Int)+5+(u:Int))=(q:Int)+5+(u:Int):=IntWalk.i64_in _ (by omega)
      have w3:IntKind.i64.wrap ((q:Int)+5+(u:Int)+(T:Int))=(q:Int)+5+(u:Int)+(T:Int):=IntWalk.i64_in _ (by omega)
      have HS1:=Lib.hid hst1
      clear hst1 hr HT1 s1 hT hl1 hnm hu
      go_wp2_with fail
      go_quiet ((go_at_call 16;with_reducible exact Calls.quiet_of_same (HTX.out _ (below_drewN HB1.out _))))
      go_wp2_with fail
      exact ⟨⟨j+1,q+5+u+T,by omega,by go_num,by go_num,by omega,HS1,below_drewN HB1.out _⟩,by simp [intOf];omega⟩
     ·rw [if_neg hqq] at hst1
      have g1:decide ((q:Int)<20000)=false:=decide_eq_false (by omega)
      have g1':decide (q<20000)=false:=decide_eq_false hqq
      clear hr HT1 s1
      subst hst1
      go_wp2_with fail
      go_loopw [3,6] (fun nv i wr=>∃ j q:Nat,j≤n2∧nv=.int .i64 q∧i=.int .i64 j∧q≤200000∧Hid (mapsLg q (ms.drop j)=x2)∧Hid (Below w.heap.size w wr)) (fun _ i _=>n2 - (intOf i).toNat)
      case atStart=>exact ⟨0,_,by omega,rfl,rfl,hx1b,HX2.out,HB1.out⟩
      case round =>
       obtain ⟨f,z,hf,rfl,rfl,hz,HT2,HB2⟩:=hrel
       have p0:=cell_keep HB2.out PB0.out
       have p1:=cell_keep HB2.out PB1.out
       by_cases hfn:f<n2
       ·obtain ⟨x,hx⟩:∃ s,ms[f]?=some s:=⟨_,List.getElem?_eq_getElem (by rw [HN2.out];exact hfn)⟩
        obtain ⟨xb,xo,a1,c1,a2,c2,rfl,t0,t1,-,-,s1,s2,-⟩:=HMC.out f x hx
        have t0:=cell_keep HB2.out t0
        have t1:=cell_keep HB2.out t1
        have hst2:=HT2.out
        rw [mapsLg_step hx] at hst2
        have j0:(0:Int)≤(f:Int):=by omega
        have j1:(f:Int)<(n2:Int):=by omega
        have j2:decide ((f:Int)<(n2:Int))=true:=decide_eq_true j1
        have j2':decide (f<n2)=true:=decide_eq_true hfn
        by_cases hzz:z<20000
        ·rw [if_pos hzz] at hst2
         have g1:decide ((z:Int)<20000)=true:=decide_eq_true (by omega)
         have g1':decide (z<20000)=true:=decide_eq_true hzz
         have HTX1:=Lib.hid (fun W (hb:Below w.heap.size w W)=>(texts_any x.paths _ W (s1.keep hb)).mono fun e w' h=>(⟨h.1,h.2.symm⟩:_∧w'=W))
         have HTX2:=Lib.hid (fun W (hb:Below w.heap.size w W)=>(texts_any x.repos _ W (s2.keep hb)).mono fun e w' h=>(⟨h.1,h.2.symm⟩:_∧w'=W))
         have b1:=textsN_le x.paths
         have b2:=textsN_le x.repos
         obtain ⟨T1,hT1⟩:∃ t,textsN x.paths=t:=⟨_,rfl⟩
         obtain ⟨T2,hT2⟩:∃ t,textsN x.repos=t:=⟨_,rfl⟩
         rw [hT1] at HTX1 b1 hst2
         rw [hT2] at HTX2 b2 hst2
         obtain ⟨l1,hl1⟩:∃ t,x.paths.length=t:=⟨_,rfl⟩
         obtain ⟨l2,hl2⟩:∃ t,x.repos.length=t:=⟨_,rfl⟩
         rw [hl1] at t0 HTX1
         rw [hl2] at t1 HTX2
         have w1:IntKind.i64.wrap ((z:Int)+5)=(z:Int)+5:=IntWalk.i64_in _ (by omega)
         have w2:IntKind.i64.wrap ((z:Int)+5+(T1:Int))=(z:Int)+5+(T1:Int):=IntWalk.i64_in _ (by omega)
         have w3:IntKind.i64.wrap ((z:Int)+5+(T1:Int)+(T2:Int))=(z:Int)+5+(T1:Int)+(T2:Int):=IntWalk.i64_in _ (by omega)
         have HS2:=Lib.hid hst2
         clear hst2 hx HT2 s1 s2 hT1 hT2 hl1 hl2
         go_wp2_with fail
         go_quiet ((first | (go_at_call 16;with_reducible exact Calls.quiet_of_same (HTX1.out _ (below_drewN HB2.out _))) | (go_at_call 16;with_reducible exact Calls.quiet_of_same (HTX2.out _ (below_drewN HB2.out _)))))
         go_wp2_with fail
         exact ⟨⟨f+1,z+5+T1+T2,by omega,by go_num,by go_num,by omega,HS2,below_drewN HB2.out _⟩,by simp [intOf];omega⟩
        ·rw [if_neg hzz] at hst2
         have g1:decide ((z:Int)<20000)=false:=decide_eq_false (by omega)
         have g1':decide (z<20000)=false:=decide_eq_false hzz
         clear hx HT2 s1 s2
         subst hst2
         go_wp2_with fail
         exact ⟨⟨k+1,_,by omega,by go_num,by go_num,hx2b,HST,HB2⟩,by simp [intOf];omega⟩
       ·obtain rfl:f=n2:=by omega
        have j1:¬ (f:Int)<(f:Int):=by omega
        have hst2:=HT2.out
        rw [List.drop_of_length_le (by rw [HN2.out];exact Nat.le_refl _),mapsLg] at hst2
        clear HT2
        subst hst2
        go_wp2_with fail
        exact ⟨⟨k+1,_,by omega,by go_num,by go_num,hx2b,HST,HB2⟩,by simp [intOf];omega⟩
    ·obtain rfl:j=n1:=by omega
     have j1:¬ (j:Int)<(j:Int):=by omega
     have hst1:=HT1.out
     rw [List.drop_of_length_le (by rw [HN1.out];exact Nat.le_refl _),reposLg] at hst1
     clear HT1
     subst hst1
     go_wp2_with fail
     go_loopw [3,6] (fun nv i wr=>∃ j q:Nat,j≤n2∧nv=.int .i64 q∧i=.int .i64 j∧q≤200000∧Hid (mapsLg q (ms.drop j)=x2)∧Hid (Below w.heap.size w wr)) (fun _ i _=>n2 - (intOf i).toNat)
     case atStart=>exact ⟨0,_,by omega,rfl,rfl,hx1b,HX2.out,HB1.out⟩
     case round =>
      obtain ⟨f,z,hf,rfl,rfl,hz,HT2,HB2⟩:=hrel
      have p0:=cell_keep HB2.out PB0.out
      have p1:=cell_keep HB2.out PB1.out
      by_cases hfn:f<n2
      ·obtain ⟨x,hx⟩:∃ s,ms[f]?=some s:=⟨_,List.getElem?_eq_getElem (by rw [HN2.out];exact hfn)⟩
       obtain ⟨xb,xo,a1,c1,a2,c2,rfl,t0,t1,-,-,s1,s2,-⟩:=HMC.out f x hx
       have t0:=cell_keep HB2.out t0
       have t1:=cell_keep HB2.out t1
       have hst2:=HT2.out
       rw [mapsLg_step hx] at hst2
       have j0:(0:Int)≤(f:Int):=by omega
       have j1:(f:Int)<(n2:Int):=by omega
       have j2:decide ((f:Int)<(n2:Int))=true:=decide_eq_true j1
       have j2':decide (f<n2)=true:=decide_eq_true hfn
       by_cases hzz:z<20000
       ·rw [if_pos hzz] at hst2
        have g1:decide ((z:Int)<20000)=true:=decide_eq_true (by omega)
        have g1':decide (z<20000)=true:=decide_eq_true hzz
        have HTX1:=Lib.hid (fun W (hb:Below w.heap.size w W)=>(texts_any x.paths _ W (s1.keep hb)).mono fun e w' h=>(⟨h.1,h.2.symm⟩:_∧w'=W))
        have HTX2:=Lib.hid (fun W (hb:Below w.heap.size w W)=>(texts_any x.repos _ W (s2.keep hb)).mono fun e w' h=>(⟨h.1,h.2.symm⟩:_∧w'=W))
        have b1:=textsN_le x.paths
        have b2:=textsN_le x.repos
        obtain ⟨T1,hT1⟩:∃ t,textsN x.paths=t:=⟨_,rfl⟩
        obtain ⟨T2,hT2⟩:∃ t,textsN x.repos=t:=⟨_,rfl⟩
        rw [hT1] at HTX1 b1 hst2
        rw [hT2] at HTX2 b2 hst2
        obtain ⟨l1,hl1⟩:∃ t,x.paths.length=t:=⟨_,rfl⟩
        obtain ⟨l2,hl2⟩:∃ t,x.repos.length=t:=⟨_,rfl⟩
        rw [hl1] at t0 HTX1
        rw [hl2] at t1 HTX2
        have w1:IntKind.i64.wrap ((z:Int)+5)=(z:Int)+5:=IntWalk.i64_in _ (by omega)
        have w2:IntKind.i64.wrap ((z:Int)+5+(T1:Int))=(z:Int)+5+(T1:Int):=IntWalk.i64_in _ (by omega)
        have w3:IntKind.i64.wrap ((z:Int)+5+(T1:Int)+(T2:Int))=(z:Int)+5+(T1:Int)+(T2:Int):=IntWalk.i64_in _ (by omega)
        have HS2:=Lib.hid hst2
        clear hst2 hx HT2 s1 s2 hT1 hT2 hl1 hl2
        go_wp2_with fail
        go_quiet ((first | (go_at_call 16;with_reducible exact Calls.quiet_of_same (HTX1.out _ (below_drewN HB2.out _))) | (go_at_call 16;with_reducible exact Calls.quiet_of_same (HTX2.out _ (below_drewN HB2.out _)))))
        go_wp2_with fail
        exact ⟨⟨f+1,z+5+T1+T2,by omega,by go_num,by go_num,by omega,HS2,below_drewN HB2.out _⟩,by simp [intOf];omega⟩
       ·rw [if_neg hzz] at hst2
        have g1:decide ((z:Int)<20000)=false:=decide_eq_false (by omega)
        have g1':decide (z<20000)=false:=decide_eq_false hzz
        clear hx HT2 s1 s2
        subst hst2
        go_wp2_with fail
        exact ⟨⟨k+1,_,by omega,by go_num,by go_num,hx2b,HST,HB2⟩,by simp [intOf];omega⟩
      ·obtain rfl:f=n2:=by omega
       have j1:¬ (f:Int)<(f:Int):=by omega
       have hst2:=HT2.out
       rw [List.drop_of_length_le (by rw [HN2.out];exact Nat.le_refl _),mapsLg] at hst2
       clear HT2
       subst hst2
       go_wp2_with fail
       exact ⟨⟨k+1,_,by omega,by go_num,by go_num,hx2b,HST,HB2⟩,by simp [intOf];omega⟩
  ·obtain rfl:k=N:=by omega
   have i1:¬ (k:Int)<(k:Int):=by omega
   have hst:=HT.out
   rw [List.drop_of_length_le (by rw [HN.out];exact Nat.le_refl _),longLg] at hst
   clear HT
   subst hst
   have hge:decide ((20000:Int)≤(m:Int))=decide (20000≤m):=by
    by_cases h:20000≤m
    ·rw [decide_eq_true h,decide_eq_true (by omega)]
    ·rw [decide_eq_false h,decide_eq_false (by omega)]
   go_wp2_with fail
   go_ret
   exact ⟨by first | rfl | (rw [hge]) | simp [hge],HB.out⟩
end

section
open Go.RowKit
theorem longAt_one {w:World} {b:Nat} {M:MapP} {a1 a2:Option Addr} {n1 c1 n2 c2:Nat} (hk:BlkAt w b 25 #[.slice a1 n1 c1,.slice a2 n2 c2]) (h:MapAt w (.agg #[.slice a1 n1 c1,.slice a2 n2 c2]) M):LongAt w (.slice (some ⟨b,0,none⟩) 1 1) [M]:=by
 obtain ⟨b1,d1,b2,d2,e,hr,hm⟩:=h.parts
 simp only [Value.agg.injEq,Array.mk.injEq,List.cons.injEq,Value.slice.injEq,and_true] at e
 obtain ⟨⟨rfl,rfl,rfl⟩,rfl,rfl,rfl⟩:=e
 refine ⟨by show 1≤1000;decide,b,0,1,rfl,fun i M' hi=>?_⟩
 match i,hi with
 | 0,hi =>
   obtain rfl:M=M':=by simpa using hi
   exact ⟨_,_,_,_,by rw [BlkAt.cell hk];rfl,by rw [BlkAt.cell hk];rfl,hr,hm⟩
 | i+1,hi=>simp at hi
theorem longB (Ms:List MapP) (v:Value) (w:World) (h:LongAt w v Ms) (b:Bool) (hb:decide (20000≤longLg 0 Ms)=b) :
 Calls Tryz.prog 4 #[v] w fun e w'=>e=.returned (.bool b)∧Below w.heap.size w w':=by
 rw [← hb];exact Long_any Ms v w h
end

section
set_option maxRecDepth 100000
open Go.RowKit
theorem memRow_chart {Q w:World} {B:Nat} {M:MapP} {v:Value} (h:MemRow Q w B (chartJ M) v):∃ (p q:VC) (g c:Nat),v=.slice (some ⟨g,0,none⟩) 2 c∧g<w.heap.size∧w.ownsRow B 41 6 (.slice (some ⟨g,0,none⟩) 2 c) 2 (xmCells [⟨tMapping,p,listJ (M.maps.map mapgJ)⟩,⟨tRepos,q,reposJ M.repos⟩])∧ValAt Q (listJ (M.maps.map mapgJ)) p.val∧ValAt Q (reposJ M.repos) q.val:=by
 obtain ⟨xs,a,c,rfl,hl,hm,ho,hv⟩:=h
 have hl2:xs.length=2:=hl
 match xs,hl2 with
 | [⟨s1,p,V1⟩,⟨s2,q,V2⟩],_ =>
   have hm':[(s1,V1),(s2,V2)]=[(tMapping,listJ (M.maps.map mapgJ)),(tRepos,reposJ M.repos)]:=hm
   simp only [List.cons.injEq,Prod.mk.injEq,and_true] at hm'
   obtain ⟨⟨rfl,rfl⟩,rfl,rfl⟩:=hm'
   have ho':w.ownsRow B 41 6 (.slice a 2 c) 2 (xmCells [⟨tMapping,p,listJ (M.maps.map mapgJ)⟩,⟨tRepos,q,reposJ M.repos⟩]):=ho
   obtain ⟨g,c',e,-,-⟩:=World.ownsRow.form ho' (by decide)
   simp only [Value.slice.injEq,true_and] at e
   obtain ⟨rfl,rfl⟩:=e
   exact ⟨p,q,g,c,rfl,(World.ownsRow.lt ho' g rfl).2,ho',(hv ⟨tMapping,p,listJ (M.maps.map mapgJ)⟩ List.mem_cons_self).1,(hv ⟨tRepos,q,reposJ M.repos⟩ (List.mem_cons_of_mem _ List.mem_cons_self)).1⟩
theorem objectOf_one (x:XM) (b c:Nat) (w:World) (hx:ValAt (pureW w) x.V x.c.val) (hz:x.name.size≤maxLen) (hw:wt x.V≤1000000000) (hc:∀ j u,x.cells[j]?=some u→w.cell? ⟨b,j,none⟩=some u) :
 Calls Tryz.prog 10 #[.slice (some ⟨b,0,none⟩) 1 c] w fun e w'=>∃ y:VC,e=.returned (.tuple #[y.val,.int .i64 0])∧Below w.heap.size w w'∧NewV w.heap.size w' (.mk 5 0 ⟨#[]⟩ [x.name] [x.V]) y.val:=by
 refine objectOf_any [x] _ w ⟨b,0,c,rfl,fun i y hy j u hu=>?_,fun y hy=>?_⟩ (by simp) (by simp) (List.pairwise_singleton _ _) (fun y hy=>?_)
 ·match i,hy with
  | 0,hy =>
    obtain rfl:x=y:=by simpa using hy
    have:=hc j u hu
    rwa [show 0+0*6+j=j by omega]
  | i+1,hy=>simp at hy
 ·rw [List.mem_singleton.1 hy];exact ⟨hx,hz⟩
 ·rw [List.mem_singleton.1 hy];exact hw
theorem chartElse_walk (M:MapP) (s:ByteArray) (V:JV) (kk:Int) (v u:Value) (w:World) (h:MapAt w v M) (hsm:s.size≤maxLen) (hV:ValAt w V u) (hlv:∀ c0 c1 c2 c3 vi,u=.agg #[c0,c1,c2,c3,vi]→Live w vi V.items) (_hk:(Lit.int IntKind.i64 kk).wf=true) (henv:NumEnv w) :
 Calls Tryz.prog 3 #[v,.string s,u,.int .i64 kk] w fun e w'=>e=.returned (.bool true)∧Below w.heap.size w w':=by
 have HAW:=Lib.hid (fun W (hb:Below w.heap.size w W)=>awake25_any W (henv.below hb))
 have HMH:=Lib.hid h
 obtain ⟨a1,c1,a2,c2,rfl,-,-⟩:=h.parts
 obtain ⟨n1,hn1⟩:∃ n,M.repos.length=n:=⟨_,rfl⟩
 obtain ⟨n2,hn2⟩:∃ n,M.maps.length=n:=⟨_,rfl⟩
 rw [hn1,hn2] at HMH ⊢
 have HN1:=Lib.hid hn1
 have HN2:=Lib.hid hn2
 obtain ⟨vn,vi,rfl,k0,k1,l0,l1,ht,hns,his⟩:=valAt_iff.1 hV
 obtain ⟨an,ncap,rfl,-,-,-⟩:=hns.parts
 obtain ⟨ai,icap,rfl,-,-⟩:=his.parts
 have HLV:=Lib.hid (hlv _ _ _ _ _ rfl)
 have HVV:=Lib.hid hV
 have HIS:=Lib.hid his
 obtain ⟨nl,hnl⟩:∃ n,V.names.length=n:=⟨_,rfl⟩
 obtain ⟨il,hil⟩:∃ n,V.items.length=n:=⟨_,rfl⟩
 obtain ⟨vk,hvk⟩:∃ n,V.k=n:=⟨_,rfl⟩
 obtain ⟨vm,hvm⟩:∃ n,V.n=n:=⟨_,rfl⟩
 obtain ⟨vt,hvt⟩:∃ n,V.t=n:=⟨_,rfl⟩
 rw [hnl,hil,hvk,hvm,hvt] at HVV ⊢
 rw [hil] at HLV HIS
 obtain ⟨sz,hsz⟩:∃ n,s.size=n:=⟨_,rfl⟩
 have HSZ:=Lib.hid hsz
 obtain ⟨w2,hw2⟩:∃ y,y=(w.alloc (.cells #[.slice a1 n1 c1,.slice a2 n2 c2] 25)).alloc (.cells #[.int .u8 vk,.int .i64 vm,.string vt,.slice an nl ncap,.slice ai il icap] 29):=⟨_,rfl⟩
 obtain ⟨w3,hw3⟩:∃ y,y=w2.alloc (.cells #[.slice a1 n1 c1,.slice a2 n2 c2] 25):=⟨_,rfl⟩
 have hb2:Below w.heap.size w w2:=by rw [hw2];exact bel_alloc (bel_alloc (Below.refl _ _) _) _
 have hb3:Below w2.heap.size w2 w3:=by rw [hw3];exact bel_alloc (Below.refl _ _) _
 have s2:w2.heap.size=w.heap.size+2:=by rw [hw2,size_al,size_al]
 have km:BlkAt w2 w.heap.size 25 #[.slice a1 n1 c1,.slice a2 n2 c2]:=by rw [hw2];exact (blkAt_new w _ _).alloc _
 have kv:BlkAt w2 (w.heap.size+1) 29 #[.int .u8 vk,.int .i64 vm,.string vt,.slice an nl ncap,.slice ai il icap]:=by
  rw [hw2]
  have:=blkAt_new (w.alloc (.cells #[.slice a1 n1 c1,.slice a2 n2 c2] 25)) #[.int .u8 vk,.int .i64 vm,.string vt,.slice an nl ncap,.slice ai il icap] 29
  rwa [size_al] at this
 have ks:BlkAt w3 w2.heap.size 25 #[.slice a1 n1 c1,.slice a2 n2 c2]:=by rw [hw3];exact blkAt_new w2 _ _
 have KM3:=Lib.hid (BlkAt.keep km hb3)
 have KV3:=Lib.hid (BlkAt.keep kv hb3)
 have B3:=Lib.hid (below_more hb2 hb3)
 obtain ⟨lg,hlg⟩:∃ b,decide (20000≤longLg 0 [M])=b:=⟨_,rfl⟩
 have HL:=Lib.hid (longB [M] _ w3 (longAt_one ks (HMH.out.keep (below_more hb2 hb3))) lg hlg)
 rw [s2] at HL
 have W3:Hid (w3=((w.alloc (.cells #[.slice a1 n1 c1,.slice a2 n2 c2] 25)).alloc (.cells #[.int .u8 vk,.int .i64 vm,.string vt,.slice an nl ncap,.slice ai il icap] 29)).alloc (.cells #[.slice a1 n1 c1,.slice a2 n2 c2] 25)):=by show _=_;rw [hw3,hw2]
 obtain ⟨m0,m1,mf⟩:=b2c km
 rw [hw2] at m0 m1 mf
 have HJ:=Lib.hid hnl
 have HSM:=Lib.hid hsm
 clear h hV hlv henv hns his hw2 hw3 hb2 hb3 s2 km kv ks k0 k1 l0 l1 ht hn1 hn2 hnl hil hvk hvm hvt hlg hsm
 go_enter Tryz.func3,Tryz.ntmps3
 go_wp2_with fail
 rw [← W3.out]
 refine HL.out.mono ?_
 rintro e w4 ⟨rfl,hb4⟩
 have B4:=Lib.hid (below_more B3.out hb4)
 have KM4:=Lib.hid (BlkAt.keep KM3.out hb4)
 have KV4:=Lib.hid (BlkAt.keep KV3.out hb4)
 clear hb4 HL W3 B3 KM3 KV3 m0 m1 mf
 cases lg with
 | true =>
   go_wp2_with fail
   refine (HAW.out _ B4.out).mono ?_
   rintro e w5 ⟨rfl,hb5⟩
   have B5:=Lib.hid (below_more B4.out hb5)
   clear hb5
   go_wp2_with fail
   go_ret
   exact ⟨rfl,B5.out⟩
 | false =>
   by_cases hs1:1000<s.size
   ·have hs2:(1000:Int)<(s.size:Int):=by omega
    go_wp2_with fail
    refine (HAW.out _ B4.out).mono ?_
    rintro e w5 ⟨rfl,hb5⟩
    have B5:=Lib.hid (below_more B4.out hb5)
    clear hb5
    go_wp2_with fail
    go_ret
    exact ⟨rfl,B5.out⟩
   ·have hs2:¬ (1000:Int)<(s.size:Int):=by omega
    obtain ⟨w5,hw5⟩:∃ y,y=w4.alloc (.cells #[.int .u8 vk,.int .i64 vm,.string vt,.slice an nl ncap,.slice ai il icap] 29):=⟨_,rfl⟩
    have hb5:Below w4.heap.size w4 w5:=by rw [hw5];exact bel_alloc (Below.refl _ _) _
    have hIt:ItemsAt w5 (.slice (some ⟨w4.heap.size,0,none⟩) 1 1) [V]:=by
     have q:∀ i,w5.cell? ⟨w4.heap.size,i,none⟩=(#[.int .u8 vk,.int .i64 vm,.string vt,.slice an nl ncap,.slice ai il icap]:Array Value)[i]?:=fun i=>by rw [hw5,cell_al_eq _ _ _ _ _ rfl]
     exact itemsAt_len (l:=[V]) rfl (rowAt_put (by rw [q];rfl) (by rw [q];rfl) (by rw [q];rfl) (by rw [q];rfl) (by rw [q];rfl) (HVV.out.keep (below_more B4.out hb5)) (rowAt_nil _ _ _))
    have HL2:=Lib.hid (long_any [V] _ _ hIt)
    have B5:=Lib.hid (below_more B4.out hb5)
    have KM5:=Lib.hid (BlkAt.keep KM4.out hb5)
    have KV5:=Lib.hid (BlkAt.keep KV4.out hb5)
    have W5:=Lib.hid hw5
    obtain ⟨v0,v1,v2,v3,v4,vf⟩:=b5t KV4.out
    clear hw5 hb5 hIt KM4 KV4 B4
    go_wp2_with fail
    rw [← W5.out]
    refine HL2.out.mono ?_
    rintro e w5' ⟨r,rfl,hwt,hEq⟩
    obtain rfl:=hEq
    have HWT:=Lib.hid hwt
    clear HL2 W5 v0 v1 v2 v3 v4 vf hwt
    cases r with
    | true =>
      go_wp2_with fail
      refine (HAW.out _ B5.out).mono ?_
      rintro e w6 ⟨rfl,hb6⟩
      have B6:=Lib.hid (below_more B5.out hb6)
      clear hb6
      go_wp2_with fail
      go_ret
      exact ⟨rfl,B6.out⟩
    | false =>
      obtain ⟨m0,m1,mf⟩:=b2c KM5.out
      go_wp2_with fail
      refine (cMay_any M _ _ (HMH.out.keep B5.out)).mono ?_
      rintro e w6 ⟨rfl,hb6⟩
      have B6:=Lib.hid (below_more B5.out hb6)
      have KM6:=Lib.hid (BlkAt.keep KM5.out hb6)
      have KV6:=Lib.hid (BlkAt.keep KV5.out hb6)
      clear hb6 B5 KM5 KV5 m0 m1 mf
      obtain ⟨mb,hmb⟩:∃ b,mayM M=b:=⟨_,rfl⟩
      rw [hmb]
      cases mb with
      | false =>
        go_wp2_with fail
        refine (HAW.out _ B6.out).mono ?_
        rintro e w7 ⟨rfl,hb7⟩
        have B7:=Lib.hid (below_more B6.out hb7)
        clear hb7
        go_wp2_with fail
        go_ret
        exact ⟨rfl,B7.out⟩
      | true =>
        have HMB:=Lib.hid hmb
        clear hmb
        go_wp2_with fail
        refine (HAW.out _ B6.out).mono ?_
        rintro e w7 ⟨rfl,hb7⟩
        have B7:=Lib.hid (below_more B6.out hb7)
        have KM7:=Lib.hid (BlkAt.keep KM6.out hb7)
        have KV7:=Lib.hid (BlkAt.keep KV6.out hb7)
        clear hb7 B6 KM6 KV6 HAW
        obtain ⟨m0,m1,mf⟩:=b2c KM7.out
        go_wp2_with fail
        refine (cValue_any M _ _ (HMH.out.keep B7.out)).mono ?_
        rintro e w8 ⟨hb8,hcase⟩
        rcases hcase with ⟨hm,-⟩ | ⟨-,⟨yk,yn,yt,ya,yl,yc,yb,ym,ye⟩,rfl,hy⟩
        ·rw [HMB.out] at hm
         cases hm
        ·simp only [VC.val]
         have B9:Hid (Below w.heap.size w (w8.alloc (.cells #[.int .u8 yk,.int .i64 yn,.string yt,.slice ya yl yc,.slice yb ym ye] 29))):=bel_alloc (below_more B7.out hb8) _
         have KM9:Hid (BlkAt (w8.alloc (.cells #[.int .u8 yk,.int .i64 yn,.string yt,.slice ya yl yc,.slice yb ym ye] 29)) w.heap.size 25 #[.slice a1 n1 c1,.slice a2 n2 c2]):=(BlkAt.keep KM7.out hb8).alloc _
         have KV9:Hid (BlkAt (w8.alloc (.cells #[.int .u8 yk,.int .i64 yn,.string yt,.slice ya yl yc,.slice yb ym ye] 29)) (w.heap.size+1) 29 #[.int .u8 vk,.int .i64 vm,.string vt,.slice an nl ncap,.slice ai il icap]):=(BlkAt.keep KV7.out hb8).alloc _
         have KY9:Hid (BlkAt (w8.alloc (.cells #[.int .u8 yk,.int .i64 yn,.string yt,.slice ya yl yc,.slice yb ym ye] 29)) w8.heap.size 29 #[.int .u8 yk,.int .i64 yn,.string yt,.slice ya yl yc,.slice yb ym ye]):=blkAt_new w8 _ _
         have HY9:Hid (ValAt (pureW (w8.alloc (.cells #[.int .u8 yk,.int .i64 yn,.string yt,.slice ya yl yc,.slice yb ym ye] 29))) (chartJ M) (VC.val ⟨yk,yn,yt,ya,yl,yc,yb,ym,ye⟩)):=valOf_pure hy (bel_alloc (Below.refl _ _) _)
         obtain ⟨y0,y1,y2,y3,y4,yf⟩:=b5t KY9.out
         clear B7 KM7 KV7 hb8 hy m0 m1 mf
         go_wp2_with fail
         generalize (w8.alloc (.cells #[.int .u8 yk,.int .i64 yn,.string yt,.slice ya yl yc,.slice yb ym ye] 29))=w9 at B9 KM9 KV9 KY9 HY9 ⊢
         generalize w8.heap.size=yb8 at KY9 ⊢
         refine (members25_any (pureW w9) (chartJ M) ⟨yk,yn,yt,ya,yl,yc,yb,ym,ye⟩ w9 HY9.out (fun p u hu=>(pure_cell hu).2) rfl (by show 2≤1000;decide)).mono ?_
         rintro e w10 ⟨rv,rfl,hb10,hrow⟩
         obtain ⟨⟨pk,pn,pt,pa,pl,pc,pb,pm,pe⟩,⟨qk,qn,qt,qa,ql,qc,qb,qm,qe⟩,mg,mc,rfl,hmg,hro,hvp,hvq⟩:=memRow_chart hrow
         have B10:=Lib.hid (below_more B9.out hb10)
         have KM10:=Lib.hid (BlkAt.keep KM9.out hb10)
         have KV10:=Lib.hid (BlkAt.keep KV9.out hb10)
         have KY10:=Lib.hid (BlkAt.keep KY9.out hb10)
         have HY10:=Lib.hid (HY9.out.imp (pure_keep hb10))
         have HRO:=Lib.hid hro
         have HVP:=Lib.hid (hvp.imp (pure_keep hb10))
         have HVQ:=Lib.hid (hvq.imp (pure_keep hb10))
         clear B9 KM9 KV9 KY9 HY9 hb10 hrow hro hvp hvq y0 y1 y2 y3 y4 yf
         go_wp2_with fail
         have HONE:Hid (∀ (j:Nat),j<2→∃ x:XM,(∀ i u,x.cells[i]?=some u→w10.cell? ⟨mg,j*6+i,none⟩=some u)∧ValAt (pureW w10) x.V x.c.val∧x.name.size≤maxLen∧wt x.V≤1000000000∧chartV (.mk 5 0 ⟨#[]⟩ [x.name] [x.V])=.bad 6):=fun j hj=>by
          have hcc:=World.ownsRow.cells HRO.out (g:=mg) rfl
          have hmay:=chartJ_may HMB.out
          obtain ⟨x,hx⟩:∃ x,([⟨tMapping,⟨pk,pn,pt,pa,pl,pc,pb,pm,pe⟩,listJ (M.maps.map mapgJ)⟩,⟨tRepos,⟨qk,qn,qt,qa,ql,qc,qb,qm,qe⟩,reposJ M.repos⟩]:List XM)[j]?=some x:=⟨_,List.getElem?_eq_getElem hj⟩
          refine ⟨x,fun i u hu=>?_,?_⟩
          ·have hi6:i<6:=by have:=(List.getElem?_eq_some_iff.1 hu).1;rwa [XM.cells_len] at this
           have:=hcc (j*6+i) u ((xmCells_get _ j x hx i hi6).trans hu)
           rwa [add_none,Nat.zero_add] at this
          ·match j,hj,hx with
           | 0,_,hx =>
             obtain rfl:=Option.some.inj hx
             exact ⟨HVP.out,by show tMapping.size≤maxLen;decide,wt_may (may_item hmay (Or.inr rfl) List.mem_cons_self),half1_bad HMB.out⟩
           | 1,_,hx =>
             obtain rfl:=Option.some.inj hx
             exact ⟨HVQ.out,by show tRepos.size≤maxLen;decide,wt_may (may_item hmay (Or.inr rfl) (List.mem_cons_of_mem _ List.mem_cons_self)),half2_bad HMB.out⟩
         go_loopw [12] (fun i wr=>∃ (j:Nat),j≤2∧i=.int .i64 j∧Hid (Below w10.heap.size w10 wr)) (fun i _=>2 - (intOf i).toNat)
         case atStart=>exact ⟨0,by omega,rfl,Below.refl _ _⟩
         case round =>
          obtain ⟨j,hj,rfl,HB⟩:=hrel
          by_cases hj2:j<2
          ·obtain ⟨⟨nm,⟨xk,xn,xt,xa,xl,xc,xb,xm,xe⟩,X⟩,hc,hv,hz,hw,hbad⟩:=HONE.out j hj2
           have c0:=cell_keep HB.out (hc 0 _ rfl)
           have c1:=cell_keep HB.out (hc 1 _ rfl)
           have c2:=cell_keep HB.out (hc 2 _ rfl)
           have c3:=cell_keep HB.out (hc 3 _ rfl)
           have c4:=cell_keep HB.out (hc 4 _ rfl)
           have c5:=cell_keep HB.out (hc 5 _ rfl)
           simp only [Nat.add_zero] at c0
           obtain ⟨w11,hw11⟩:∃ y,y=wr.alloc (.cells #[.string nm,.int .u8 xk,.int .i64 xn,.string xt,.slice xa xl xc,.slice xb xm xe] 41):=⟨_,rfl⟩
           have hb11:Below wr.heap.size wr w11:=by rw [hw11];exact bel_alloc (Below.refl _ _) _
           have HOB:=Lib.hid (objectOf_one ⟨nm,⟨xk,xn,xt,xa,xl,xc,xb,xm,xe⟩,X⟩ wr.heap.size 1 w11 (hv.imp (pure_keep (below_more HB.out hb11))) hz hw (fun i u hu=>by
            have hu':([.string nm,.int .u8 xk,.int .i64 xn,.string xt,.slice xa xl xc,.slice xb xm xe]:List Value)[i]?=some u:=hu
            rw [hw11,cell_al_eq _ _ _ _ _ rfl]
            simpa using hu'))
           have HB11:=Lib.hid (below_more HB.out hb11)
           have HW11:=Lib.hid hw11
           have HBAD:=Lib.hid hbad
           have i0':(0:Int)≤(j:Int):=by omega
           have i1':(j:Int)<2:=by omega
           clear hc hv hz hw hbad hb11 hw11
           go_wp2_with fail
           rw [← HW11.out]
           refine HOB.out.mono ?_
           rintro e w12 ⟨⟨zk,zn,zt,za,zl,zc,zb,zm,ze⟩,rfl,hb12,hv12⟩
           simp only [VC.val]
           obtain ⟨w13,hw13⟩:∃ y,y=w12.alloc (.cells #[.int .u8 zk,.int .i64 zn,.string zt,.slice za zl zc,.slice zb zm ze] 29):=⟨_,rfl⟩
           have hb13:Below w12.heap.size w12 w13:=by rw [hw13];exact bel_alloc (Below.refl _ _) _
           have HOF:=Lib.hid (cOf_any (.mk 5 0 ⟨#[]⟩ [nm] [X]) ⟨zk,zn,zt,za,zl,zc,zb,zm,ze⟩ w13 (valOf_pure hv12 hb13))
           rw [HBAD.out] at HOF
           have HZ13:Hid (BlkAt w13 w12.heap.size 29 #[.int .u8 zk,.int .i64 zn,.string zt,.slice za zl zc,.slice zb zm ze]):=by rw [hw13];exact blkAt_new w12 _ _
           have HB13:=Lib.hid (below_more (below_more HB11.out hb12) hb13)
           have HW13:=Lib.hid hw13
           simp only [VC.val] at HOF
           obtain ⟨u0,u1,u2,u3,u4,uf⟩:=b5t HZ13.out
           clear hb12 hb13 hv12 hw13 HOB HBAD c0 c1 c2 c3 c4 c5 HB HB11 HW11
           rw [HW13.out] at u0 u1 u2 u3 u4 uf
           go_wp2_with fail
           rw [← HW13.out]
           refine HOF.out.mono ?_
           rintro e w14 ⟨hb14,rfl,-⟩
           have HB14:=Lib.hid (bel_alloc (below_more HB13.out hb14) (.cells #[.slice none 0 0,.slice none 0 0] 25))
           clear HOF HZ13 HB13 HW13 hb14 u0 u1 u2 u3 u4 uf
           go_wp2_with fail
           exact ⟨⟨j+1,by omega,by go_num,HB14.out⟩,by simp [intOf];omega⟩
          ·obtain rfl:j=2:=by omega
           have i1':¬ (2:Int)<2:=by omega
           clear HONE
           go_upto_region 14 with fail
           -- R14
           go_cut [17,18] from 88 to 98 (fun s17 s18 wx=>∃ (g:Nat) (er:Int) (z:VC),s17=.pointer (some ⟨g,0,none⟩)∧s18=.int .i64 er∧Hid (Below wr.heap.size wr wx)∧Hid (wr.heap.size≤g∧BlkAt wx g 29 #[.int .u8 z.k,.int .i64 z.n,.string z.t,.slice z.a z.l z.c,.slice z.b z.m z.e])∧Hid (er≠0∨(er=0∧∃ O,WideV M s V O∧ValAt (pureW wx) O z.val)))
           case first =>
            obtain ⟨j0,hj0,hj1,hj2,hj3⟩:=info_parts infoPM
            have HJ0:=Lib.hid hj0
            have HJ1:=Lib.hid hj1
            have HJ2:=Lib.hid hj2
            have HJ3:=Lib.hid hj3
            obtain ⟨x0,x1,x2,x3,x4,xf⟩:=b5t (BlkAt.keep KV10.out HB.out)
            obtain ⟨y0,y1,y2,y3,y4,yf⟩:=b5t (BlkAt.keep KY10.out HB.out)
            have HBr:=Lib.hid (below_more B10.out HB.out)
            have HYr:=Lib.hid (HY10.out.imp (pure_keep HB.out))
            have HME:Hid (∀ Y,Below wr.heap.size wr Y→Calls Tryz.prog 9 #[.agg #[.int .u8 yk,.int .i64 yn,.string yt,.slice ya yl yc,.slice yb ym ye]] Y fun e w'=>∃ v,e=.returned v∧Below Y.heap.size Y w'∧MemRow (pureW wr) w' Y.heap.size (chartJ M) v):=fun Y hY=>members25_any (pureW wr) (chartJ M) ⟨yk,yn,yt,ya,yl,yc,yb,ym,ye⟩ Y HYr.out (fun p u hu=>cell_keep hY (pure_cell hu).2) rfl (by show 2≤1000;decide)
            have HOW:Hid (∀ (p q:VC) (g c:Nat) (Y:World),Below wr.heap.size wr Y→Y.ownsRow wr.heap.size 41 6 (.slice (some ⟨g,0,none⟩) 3 c) 3 (xmCells [⟨tMapping,p,listJ (M.maps.map mapgJ)⟩,⟨tRepos,q,reposJ M.repos⟩,⟨s,⟨vk,vm,vt,an,nl,ncap,ai,il,icap⟩,V⟩])→ValAt (pureW wr) (listJ (M.maps.map mapgJ)) p.val→ValAt (pureW wr) (reposJ M.repos) q.val→Calls Tryz.prog 10 #[.slice (some ⟨g,0,none⟩) 3 c] Y fun e w'=>∃ (z:VC) (er:Int),e=.returned (.tuple #[z.val,.int .i64 er])∧Below Y.heap.size Y w'∧(er≠0∨(er=0∧∃ O,WideV M s V O∧NewV Y.heap.size w' O z.val))):=fun p q g c Y hY ho hp hq=>objectOf_wide p q ⟨vk,vm,vt,an,nl,ncap,ai,il,icap⟩ g c wr.heap.size wr Y hY ho hp hq (HVV.out.keep HBr.out) (ItemsAt.imp (fun p u=>cell_keep HBr.out) HIS.out) (Live.keep HIS.out HLV.out HBr.out) HSM.out (wt_may (may_item (chartJ_may HMB.out) (Or.inr rfl) List.mem_cons_self)) (wt_may (may_item (chartJ_may HMB.out) (Or.inr rfl) (List.mem_cons_of_mem _ List.mem_cons_self))) (wt_long HWT.out)
            clear hj0 hj1 hj2 hj3 hmg
            refine wp_region_any (by kernel_rfl) ?_
            refine wpAny_putsR [(0,some 89),(1,some 90),(2,some 91),(3,some 92),(4,some 93),(5,some 94),(6,some 95),(7,some 96),(8,some 88),(9,some 97),(10,some 98),(11,some 17),(12,none)] 13 [] (by kernel_rfl) (by kernel_rfl) (of_decide_eq_true (by kernel_rfl)) (elI wr M s (.agg #[.int .u8 yk,.int .i64 yn,.string yt,.slice ya yl yc,.slice yb ym ye]) ⟨vk,vm,vt,an,nl,ncap,ai,il,icap⟩ V) (fun vs=>by refine ⟨bel_drew (Below.refl _ _),?_,?_,?_,?_,?_,?_,?_,?_,?_,?_,?_,?_,?_⟩ <;> exact fun h=>absurd ((none_done _ _).symm.trans h) (by decide)) ?_ ?_
            ·
             refine PutStepsR.at rfl (fun dn vs Y hdn hcl hdep hI K hK=>?_) ?_
             ·have g0:=cell_keep hI.1 y0
              have g1:=cell_keep hI.1 y1
              have g2:=cell_keep hI.1 y2
              have g3:=cell_keep hI.1 y3
              have g4:=cell_keep hI.1 y4
              have HI0:=Lib.hid hI
              simp only [putsOf,pqA,pqB,Act.put,pqC,pqD,pqE] at hK ⊢
              clear hcl hdep hI hdn
              go_simp
              obtain ⟨i0,k0,k1,k2,k3,k4,k5,k6,k7,k8,k9,k10,k11,k12⟩:=elI_keep HI0.out (Below.refl _ _)
              exact hK.out (.agg #[.int .u8 yk,.int .i64 yn,.string yt,.slice ya yl yc,.slice yb ym ye]) _ _ rfl ⟨i0,fun _=>rfl,k1,k2,k3,k4,k5,k6,k7,k8,k9,k10,k11,k12⟩
             refine PutStepsR.at rfl (fun dn vs Y hdn hcl hdep hI K hK=>?_) ?_
             ·have e0:vs 0=.agg #[.int .u8 yk,.int .i64 yn,.string yt,.slice ya yl yc,.slice yb ym ye]:=hI.2.1 (hdep 0 (by kernel_rfl))
              have HI0:=Lib.hid hI
              simp only [putsOf,pqA,pqB,Act.put,pqC,pqD,pqE] at hK ⊢
              rw [e0] at hK ⊢
              clear hcl hdep hI
              go_simp
              refine (HME.out _ HI0.out.1).mono ?_
              rintro e w' ⟨rv,rfl,hbr,hrow⟩
              obtain ⟨p,q,g,c,rfl,hg,hro,hvp,hvq⟩:=memRow_chart hrow
              obtain ⟨i0,k0,k1,k2,k3,k4,k5,k6,k7,k8,k9,k10,k11,k12⟩:=elI_keep HI0.out hbr
              exact hK.out _ _ _ rfl ⟨i0,k0,fun _ _=>⟨p,q,g,c,rfl,row_lower hro HI0.out.1.size,hvp,hvq⟩,k2,k3,k4,k5,k6,k7,k8,k9,k10,k11,k12⟩
             refine PutStepsR.at rfl (fun dn vs Y hdn hcl hdep hI K hK=>?_) ?_
             ·have HI0:=Lib.hid hI
              simp only [putsOf,pqA,pqB,Act.put,pqC,pqD,pqE] at hK ⊢
              clear hcl hdep hI hdn
              go_simp
              obtain ⟨i0,k0,k1,k2,k3,k4,k5,k6,k7,k8,k9,k10,k11,k12⟩:=elI_keep HI0.out (Below.refl _ _)
              exact hK.out (.string s) _ _ rfl ⟨i0,k0,k1,fun _=>rfl,k3,k4,k5,k6,k7,k8,k9,k10,k11,k12⟩
             refine PutStepsR.at rfl (fun dn vs Y hdn hcl hdep hI K hK=>?_) ?_
             ·have g0:=cell_keep hI.1 x0
              have g1:=cell_keep hI.1 x1
              have g2:=cell_keep hI.1 x2
              have g3:=cell_keep hI.1 x3
              have g4:=cell_keep hI.1 x4
              have HI0:=Lib.hid hI
              simp only [putsOf,pqA,pqB,Act.put,pqC,pqD,pqE] at hK ⊢
              clear hcl hdep hI hdn
              go_simp
              obtain ⟨i0,k0,k1,k2,k3,k4,k5,k6,k7,k8,k9,k10,k11,k12⟩:=elI_keep HI0.out (Below.refl _ _)
              exact hK.out (.agg #[.int .u8 vk,.int .i64 vm,.string vt,.slice an nl ncap,.slice ai il icap]) _ _ rfl ⟨i0,k0,k1,k2,fun _=>rfl,k4,k5,k6,k7,k8,k9,k10,k11,k12⟩
             refine PutStepsR.at rfl (fun dn vs Y hdn hcl hdep hI K hK=>?_) ?_
             ·have e2:vs 2=.string s:=hI.2.2.2.1 (hdep 2 (by kernel_rfl))
              have e3:vs 3=.agg #[.int .u8 vk,.int .i64 vm,.string vt,.slice an nl ncap,.slice ai il icap]:=hI.2.2.2.2.1 (hdep 3 (by kernel_rfl))
              have HI0:=Lib.hid hI
              simp only [putsOf,pqA,pqB,Act.put,pqC,pqD,pqE] at hK ⊢
              rw [e2,e3] at hK ⊢
              clear hcl hdep hI hdn
              go_simp
              obtain ⟨i0,k0,k1,k2,k3,k4,k5,k6,k7,k8,k9,k10,k11,k12⟩:=elI_keep HI0.out (Below.refl _ _)
              exact hK.out (.agg #[.string s,.int .u8 vk,.int .i64 vm,.string vt,.slice an nl ncap,.slice ai il icap]) _ _ rfl ⟨i0,k0,k1,k2,k3,fun _=>rfl,k5,k6,k7,k8,k9,k10,k11,k12⟩
             refine PutStepsR.at rfl (fun dn vs Y hdn hcl hdep hI K hK=>?_) ?_
             ·have e4:vs 4=.agg #[.string s,.int .u8 vk,.int .i64 vm,.string vt,.slice an nl ncap,.slice ai il icap]:=hI.2.2.2.2.2.1 (hdep 4 (by kernel_rfl))
              have HI0:=Lib.hid hI
              simp only [putsOf,pqA,pqB,Act.put,pqC,pqD,pqE] at hK ⊢
              rw [e4] at hK ⊢
              clear hcl hdep hI hdn
              go_simp
              obtain ⟨i0,k0,k1,k2,k3,k4,k5,k6,k7,k8,k9,k10,k11,k12⟩:=elI_keep HI0.out (bel_alloc (Below.refl _ _) _)
              exact hK.out (.slice (some ⟨Y.heap.size,0,none⟩) 1 1) _ _ rfl ⟨i0,k0,k1,k2,k3,k4,fun _ _=>⟨_,rfl,blkAt_newC _ _ _⟩,k6,k7,k8,k9,k10,k11,k12⟩
             refine PutStepsR.at rfl (fun dn vs Y hdn hcl hdep hI K hK=>?_) ?_
             ·have d1:=hdep 1 (by kernel_rfl)
              have d5:=hdep 5 (by kernel_rfl)
              obtain ⟨i0,k0,k1,k2,k3,k4,k5,k6,k7,k8,k9,k10,k11,k12⟩:=hI
              obtain ⟨p,q,g1,c1',e1,h1,hvp,hvq⟩:=k1 d1 hdn
              obtain ⟨g5,e5,hB5⟩:=k5 d5 hdn
              simp only [putsOf,pqA,pqB,Act.put,pqC,pqD,pqE] at hK ⊢
              rw [e1,e5] at hK ⊢
              rw [if_pos]
              rotate_left
              ·rfl
              refine wp_append_anyC Y _ _ _ rfl wr.heap.size 41 j0 _ 6 96 Tryz.underlying37 HJ0.out HJ1.out HJ2.out HJ3.out rfl (by decide) (.slice (some ⟨g1,0,none⟩) 2 c1') 2 (xmCells [⟨tMapping,p,listJ (M.maps.map mapgJ)⟩,⟨tRepos,q,reposJ M.repos⟩]) rfl h1 (some ⟨g5,0,none⟩) 1 1 [.string s,.int .u8 vk,.int .i64 vm,.string vt,.slice an nl ncap,.slice ai il icap] rfl rfl (fun j u hj=>⟨_,rfl,World.news_of_block (cs:=#[.string s,.int .u8 vk,.int .i64 vm,.string vt,.slice an nl ncap,.slice ai il icap]) (fr:=(0,0)) hB5 j u hj⟩) (by intro u hu;simp only [List.mem_cons,List.not_mem_nil,or_false] at hu;rcases hu with rfl | rfl | rfl | rfl | rfl | rfl <;> rfl) (by unfold maxLen;omega) (by omega) i0.size ?_
              intro v' w' hown hgr hat
              have hbw:Below wr.heap.size wr w':=i0.grown hgr i0.size (fun k hk=>(World.ownsRow.lt h1 k hk).1)
              obtain ⟨g6,c6,rfl,-,-⟩:=World.ownsRow.form hown (by decide)
              refine hK.out _ _ _ rfl ⟨hbw,k0,fun _ h=>(by cases h),k2,k3,k4,fun _ h=>(by cases h),fun _ _=>⟨p,q,g6,c6,rfl,hown,hvp,hvq⟩,fun a=>?_,k8,k9,k10,fun a=>?_,fun a=>?_⟩
              ·have h3:=hcl 7 6 a (by kernel_rfl)
               rw [hdn] at h3
               cases h3
              ·obtain ⟨g,q1,q2,q3⟩:=k11 a
               refine ⟨g,q1,q2,fun h=>?_⟩
               have q3:=q3 h
               have hne:g≠g1:=fun e=>by
                subst e
                exact row_apart h1 (by decide) q3 (by decide)
               exact (hgr.block g q3.lt (fun e=>hne (Option.some.inj e))).trans q3
              ·have h3:=hcl 12 6 a (by kernel_rfl)
               rw [hdn] at h3
               cases h3
             refine PutStepsR.at rfl (fun dn vs Y hdn hcl hdep hI K hK=>?_) ?_
             ·have d12:dn 12=false:=by
               cases h:dn 12 with
               | false=>rfl
               | true=>have h3:=hcl 12 7 h (by kernel_rfl);rw [hdn] at h3;cases h3
              obtain ⟨p,q,g6,c6,e6,h6,hvp,hvq⟩:=hI.2.2.2.2.2.2.2.1 (hdep 6 (by kernel_rfl)) d12
              have HI0:=Lib.hid hI
              have HCL:=Lib.hid hcl
              have HDN:=Lib.hid hdn
              have HP6:=Lib.hid hvp
              have HQ6:=Lib.hid hvq
              have HO6:=Lib.hid h6
              simp only [putsOf,pqA,pqB,Act.put,pqC,pqD,pqE] at hK ⊢
              rw [e6] at hK ⊢
              clear hcl hdep hI hdn hvp hvq h6 d12
              go_simp
              refine (HOW.out p q g6 c6 Y HI0.out.1 HO6.out HP6.out HQ6.out).mono ?_
              rintro e w' ⟨z,er,rfl,hbz,hcz⟩
              obtain ⟨i0,k0,k1,k2,k3,k4,k5,k6,k7,k8,k9,k10,k11,k12⟩:=elI_keep HI0.out hbz
              refine hK.out _ _ _ rfl ⟨i0,k0,k1,k2,k3,k4,k5,k6,fun _=>⟨z,er,rfl,?_⟩,fun a=>?_,k9,k10,k11,k12⟩
              ·rcases hcz with h | ⟨h,O,h1,h2⟩
               ·exact Or.inl h
               ·refine Or.inr ⟨h,O,h1,fun _=>NewV.low h2 HI0.out.1.size,fun g h7 e7=>?_⟩
                obtain ⟨g',q1,q2,q3⟩:=HI0.out.2.2.2.2.2.2.2.2.2.2.2.2.1 h7
                have q3:=q3 (by
                 cases h:dn 12 with
                 | false=>rfl
                 | true=>have h3:=HCL.out 12 7 h (by kernel_rfl);rw [HDN.out] at h3;cases h3)
                have e7':vs 11=.pointer (some ⟨g,0,none⟩):=e7
                rw [q1] at e7'
                have hgg:g'=g:=by simpa using e7'
                have hlt:=q3.lt
                exact (show ValAt (hidden (offB Y.heap.size none) w') _ _ from h2).imp (hid_imp fun k hk hP=>⟨offB_no.2 ⟨Nat.le_trans HI0.out.1.size (offB_none.1 hP),fun e=>by have:=Option.some.inj e;have:=offB_none.1 hP;omega⟩,rfl⟩)
              ·have h3:=HCL.out 8 7 a (by kernel_rfl)
               rw [HDN.out] at h3
               cases h3
             refine PutStepsR.at rfl (fun dn vs Y hdn hcl hdep hI K hK=>?_) ?_
             ·have HI0:=Lib.hid hI
              have HCL:=Lib.hid hcl
              have HDN:=Lib.hid hdn
              simp only [putsOf,pqA,pqB,Act.put,pqC,pqD,pqE] at hK ⊢
              clear hcl hdep hI hdn
              go_simp
              obtain ⟨i0,k0,k1,k2,k3,k4,k5,k6,k7,k8,k9,k10,k11,k12⟩:=HI0.out
              refine hK.out (vs 7) _ _ rfl ⟨i0,k0,k1,k2,k3,k4,k5,k6,k7,fun _=>rfl,fun a=>?_,fun a=>?_,k11,k12⟩
              ·have h3:=HCL.out 9 8 a (by kernel_rfl)
               rw [HDN.out] at h3
               cases h3
              ·have h3:=HCL.out 10 8 a (by kernel_rfl)
               rw [HDN.out] at h3
               cases h3
             refine PutStepsR.at rfl (fun dn vs Y hdn hcl hdep hI K hK=>?_) ?_
             ·have d8:=hdep 8 (by kernel_rfl)
              have D7:=Lib.hid (hcl 8 7 d8 (by kernel_rfl))
              have D8:=Lib.hid d8
              have HI0:=Lib.hid hI
              have HCL:=Lib.hid hcl
              have HDN:=Lib.hid hdn
              simp only [putsOf,pqA,pqB,Act.put,pqC,pqD,pqE] at hK ⊢
              clear hcl hdep hI hdn d8
              go_simp
              obtain ⟨⟨zk,zn,zt,za,zl,zc,zb,zm,ze⟩,er,e7,-⟩:=HI0.out.2.2.2.2.2.2.2.2.1 D7.out
              have e8:vs 8=.tuple #[.agg #[.int .u8 zk,.int .i64 zn,.string zt,.slice za zl zc,.slice zb zm ze],.int .i64 er]:=(HI0.out.2.2.2.2.2.2.2.2.2.1 D8.out).trans e7
              clear e7
              rw [e8] at hK ⊢
              go_simp
              obtain ⟨i0,k0,k1,k2,k3,k4,k5,k6,k7,k8,k9,k10,k11,k12⟩:=HI0.out
              exact hK.out (.agg #[.int .u8 zk,.int .i64 zn,.string zt,.slice za zl zc,.slice zb zm ze]) _ _ rfl ⟨i0,k0,k1,k2,k3,k4,k5,k6,k7,k8,fun _ a b h=>by
               have h':vs 8=.tuple #[a,b]:=h
               rw [e8] at h'
               simp only [Value.tuple.injEq,Array.mk.injEq,List.cons.injEq,and_true] at h'
               exact h'.1,k10,k11,fun a=>by
               have h3:=HCL.out 12 9 a (by kernel_rfl);rw [HDN.out] at h3;cases h3⟩
             refine PutStepsR.at rfl (fun dn vs Y hdn hcl hdep hI K hK=>?_) ?_
             ·have d8:=hdep 8 (by kernel_rfl)
              have D7:=Lib.hid (hcl 8 7 d8 (by kernel_rfl))
              have D8:=Lib.hid d8
              have HI0:=Lib.hid hI
              have HCL:=Lib.hid hcl
              have HDN:=Lib.hid hdn
              simp only [putsOf,pqA,pqB,Act.put,pqC,pqD,pqE] at hK ⊢
              clear hcl hdep hI hdn d8
              go_simp
              obtain ⟨⟨zk,zn,zt,za,zl,zc,zb,zm,ze⟩,er,e7,-⟩:=HI0.out.2.2.2.2.2.2.2.2.1 D7.out
              have e8:vs 8=.tuple #[.agg #[.int .u8 zk,.int .i64 zn,.string zt,.slice za zl zc,.slice zb zm ze],.int .i64 er]:=(HI0.out.2.2.2.2.2.2.2.2.2.1 D8.out).trans e7
              clear e7
              rw [e8] at hK ⊢
              go_simp
              obtain ⟨i0,k0,k1,k2,k3,k4,k5,k6,k7,k8,k9,k10,k11,k12⟩:=HI0.out
              exact hK.out (.int .i64 er) _ _ rfl ⟨i0,k0,k1,k2,k3,k4,k5,k6,k7,k8,k9,fun _ a b h=>by
               have h':vs 8=.tuple #[a,b]:=h
               rw [e8] at h'
               simp only [Value.tuple.injEq,Array.mk.injEq,List.cons.injEq,and_true] at h'
               exact h'.2,k11,k12⟩
             refine PutStepsR.at rfl (fun dn vs Y hdn hcl hdep hI K hK=>?_) ?_
             ·have HI0:=Lib.hid hI
              have HCL:=Lib.hid hcl
              have HDN:=Lib.hid hdn
              simp only [putsOf,pqA,pqB,Act.put,pqC,pqD,pqE] at hK ⊢
              clear hcl hdep hI hdn
              go_simp
              obtain ⟨i0,k0,k1,k2,k3,k4,k5,k6,k7,k8,k9,k10,k11,k12⟩:=elI_keep HI0.out (bel_alloc (Below.refl _ _) _)
              refine hK.out (.pointer (some ⟨Y.heap.size,0,none⟩)) _ _ rfl ⟨i0,k0,k1,k2,k3,k4,k5,k6,fun a=>?_,k8,k9,k10,fun _=>⟨_,rfl,HI0.out.1.size,fun _=>blkAt_newC _ _ _⟩,fun a=>?_⟩
              ·obtain ⟨z,er,e7,hc⟩:=HI0.out.2.2.2.2.2.2.2.2.1 a
               refine ⟨z,er,e7,?_⟩
               rcases hc with h | ⟨h,O,h1,h2,-⟩
               ·exact Or.inl h
               ·have h2:=h2 (by
                cases h:dn 12 with
                | false=>rfl
                | true=>have h3:=HCL.out 12 11 h (by kernel_rfl);rw [HDN.out] at h3;cases h3)
                refine Or.inr ⟨h,O,h1,fun _=>h2.keepB (bel_alloc (Below.refl _ _) _),fun g _ e7=>?_⟩
                have hgg:Y.heap.size=g:=by
                 have e7':Value.pointer (some ⟨Y.heap.size,0,none⟩)=.pointer (some ⟨g,0,none⟩):=e7
                 simpa using e7'
                exact (show ValAt (hidden (offB wr.heap.size none) Y) _ _ from h2).imp (hid_imp fun k hk hP=>⟨offB_no.2 ⟨offB_none.1 hP,fun e=>by have:=Option.some.inj e;omega⟩,(bel_alloc (Below.refl _ _) _).block k hk⟩)
              ·have h3:=HCL.out 12 11 a (by kernel_rfl)
               rw [HDN.out] at h3
               cases h3
             refine PutStepsR.at rfl (fun dn vs Y hdn hcl hdep hI K hK=>?_) PutStepsR.nil
             ·have d6:=hdep 6 (by kernel_rfl)
              have d7:=hdep 7 (by kernel_rfl)
              have d8:=hdep 8 (by kernel_rfl)
              have d9:=hdep 9 (by kernel_rfl)
              have d11:=hdep 11 (by kernel_rfl)
              have HI0:=Lib.hid hI
              have D6:=Lib.hid d6
              have D7:=Lib.hid d7
              have D8:=Lib.hid d8
              have D9:=Lib.hid d9
              have D11:=Lib.hid d11
              have D12:=Lib.hid hdn
              simp only [putsOf,pqA,pqB,Act.put,pqC,pqD,pqE] at hK ⊢
              clear hcl hdep hdn hI d6 d7 d8 d9 d11
              go_simp
              obtain ⟨i0,k0,k1,k2,k3,k4,k5,k6,k7,k8,k9,k10,k11,k12⟩:=HI0.out
              obtain ⟨⟨zk,zn,zt,za,zl,zc,zb,zm,ze⟩,er,e7,hc⟩:=k7 D7.out
              have e8:=(k8 D8.out).trans e7
              have e9:vs 9=.agg #[.int .u8 zk,.int .i64 zn,.string zt,.slice za zl zc,.slice zb zm ze]:=k9 D9.out _ _ e8
              obtain ⟨g,e11,hg,hZ⟩:=k11 D11.out
              have hZ:=hZ D12.out
              obtain ⟨z0,z1,z2,z3,z4,zf⟩:=b5t hZ
              have HA:=Lib.hid (And.intro i0 (And.intro k0 (And.intro k2 (And.intro k3 k4))))
              have HK8:=Lib.hid k8
              have HK9:=Lib.hid k9
              have HK10:=Lib.hid k10
              have HC:=Lib.hid hc
              have HE7:=Lib.hid e7
              have HE9:=Lib.hid e9
              have HE11:=Lib.hid e11
              have HG:=Lib.hid hg
              have HZ:=Lib.hid hZ
              rw [e9,e11] at hK ⊢
              clear i0 k0 k1 k2 k3 k4 k5 k6 k7 k8 k9 k10 k11 k12 hc e7 e8 e9 e11 hg hZ
              go_simp
              obtain ⟨i0,k0,k2,k3,k4⟩:=HA.out
              refine hK.out (.int .i64 0) _ _ rfl ⟨bset5 i0 HG.out _ _ _ _ _,k0,fun _ h=>?_,k2,k3,k4,fun _ h=>?_,fun _ h=>(by cases h),fun _=>⟨⟨zk,zn,zt,za,zl,zc,zb,zm,ze⟩,er,HE7.out,?_⟩,HK8.out,HK9.out,HK10.out,fun _=>⟨g,HE11.out,HG.out,fun h=>(by cases h)⟩,fun _=>⟨⟨zk,zn,zt,za,zl,zc,zb,zm,ze⟩,g,HE9.out,HE11.out,HG.out,blk_set5 HZ.out _ _ _ _ _⟩⟩
              ·have h3:dn 6=false:=h
               rw [D6.out] at h3
               cases h3
              ·have h3:dn 6=false:=h
               rw [D6.out] at h3
               cases h3
              ·rcases HC.out with h | ⟨h,O,h1,-,h3⟩
               ·exact Or.inl h
               ·refine Or.inr ⟨h,O,h1,fun h=>(by cases h),fun g' _ e'=>?_⟩
                have hgg:g=g':=by
                 have e7':vs 11=.pointer (some ⟨g',0,none⟩):=e'
                 rw [HE11.out] at e7'
                 simpa using e7'
                subst hgg
                exact (h3 g D11.out HE11.out).imp (hid_imp fun k hk hP=>⟨hP,heap_set5 _ _ _ _ _ _ _ _ (fun e=>(offB_no.1 hP).2 (by rw [e]))⟩)
            ·intro dn vs Y hall hI
             obtain ⟨i0,-,-,-,-,-,-,-,k7,k8,k9,k10,-,k12⟩:=hI
             obtain ⟨z,er,e7,hc⟩:=k7 (hall 7 rfl)
             have e8:=(k8 (hall 8 rfl)).trans e7
             have e10:=k10 (hall 10 rfl) _ _ e8
             have e9:=k9 (hall 9 rfl) _ _ e8
             obtain ⟨z',g,e9',e11,hg,hZ⟩:=k12 (hall 12 rfl)
             obtain rfl:=vc_inj (e9'.symm.trans e9)
             have hrel:∃ (g:Nat) (er:Int) (z:VC),Value.pointer (some ⟨g,0,none⟩)=.pointer (some ⟨g,0,none⟩)∧vs 11=.pointer (some ⟨g,0,none⟩)∧vs 10=.int .i64 er∧Hid (Below wr.heap.size wr Y)∧Hid (wr.heap.size≤g∧BlkAt Y g 29 #[.int .u8 z.k,.int .i64 z.n,.string z.t,.slice z.a z.l z.c,.slice z.b z.m z.e])∧Hid (er≠0∨(er=0∧∃ O,WideV M s V O∧ValAt (pureW Y) O z.val)):=by
              refine ⟨g,er,z',rfl,e11,e10,i0,⟨hg,hZ⟩,?_⟩
              rcases hc with h | ⟨h,O,h1,-,h3⟩
              ·exact Or.inl h
              ·exact Or.inr ⟨h,O,h1,(h3 g (hall 11 rfl) e11).imp (hid_imp fun k hk hP=>⟨rfl,rfl⟩)⟩
             obtain ⟨g,er,z,-,e11,e10,hb,hz,hc⟩:=hrel
             clear k7 k8 k9 k10 k12 hall i0
             simp only [putsOf,pqA,pqB,Act.put,pqC,pqD,pqE]
             simp only [List.filterMap_cons,List.filterMap_nil,nthO]
             rw [e10,e11]
             refine wpList_plain rfl fun K hK=>?_
             go_simp
             refine hK _ _ ?_
             refine wpList_nil ?_
             go_wp2_with fail
             go_meet
             exact ⟨g,er,z,rfl,rfl,hb,hz,hc⟩
           case rest =>
            obtain ⟨g17,er,⟨zk,zn,zt,za,zl,zc,zb,zm,ze⟩,rfl,rfl,HB14,HZ14,HE14⟩:=hcut
            obtain ⟨w14,hw14⟩:∃ y,y=wc:=⟨_,rfl⟩
            subst hw14
            have HL14:Hid (Below w10.heap.size w10 w14):=below_more HB.out HB14.out
            obtain ⟨z0,z1,z2,z3,z4,zf⟩:=b5t HZ14.out.2
            clear HIS HLV HVV KV10 KY10 HY10 HB14 HB
            go_upto_region 15 with fail
            go_cut [104] from 99 to 104 (fun s104 wx=>∃ cb:Bool,s104=.bool cb∧Hid (Below w14.heap.size w14 wx)∧Hid (cb=true→∃ O,ValAt (pureW w14) O (VC.val ⟨zk,zn,zt,za,zl,zc,zb,zm,ze⟩)∧chartV O=.bad 11))
            case first =>
             by_cases he:er=0
             ·obtain ⟨O,hwv,hO⟩:∃ O,WideV M s V O∧ValAt (pureW w14) O (VC.val ⟨zk,zn,zt,za,zl,zc,zb,zm,ze⟩):=by
               rcases HE14.out with h | ⟨-,h⟩
               ·exact absurd he h
               ·exact h
              subst he
              obtain ⟨mo,hmo⟩:∃ b,mayB O=b:=⟨_,rfl⟩
              have HMY:=Lib.hid (refMay_any O _ w14 (hO.imp fun p u hu=>(pure_cell hu).2) (wide_wt HMB.out hwv (by omega) (wt_long2 HWT.out)) mo (Lib.hid hmo))
              have HRES:Hid (mo=true→∃ O,ValAt (pureW w14) O (VC.val ⟨zk,zn,zt,za,zl,zc,zb,zm,ze⟩)∧chartV O=.bad 11):=fun h=>by
               obtain ⟨c1,c2,c3,ys,us,hp,ho,rfl⟩:=hwv
               exact ⟨_,hO,wide_bad HMB.out hp ho (hmo.trans h)⟩
              clear hwv hO hmo HE14
              simp only [VC.val] at HMY
              go_wp2_with fail
              refine HMY.out.mono ?_
              rintro e wx ⟨rfl,hbx⟩
              have HBX:=Lib.hid hbx
              clear hbx
              go_wp2_with fail
              go_meet
              exact ⟨mo,rfl,HBX,HRES⟩
             ·have he2:(er == 0)=false:=by simp [he]
              go_wp2_with fail
              go_meet
              exact ⟨false,rfl,Below.refl _ _,fun h=>by cases h⟩
            case rest =>
             obtain ⟨cb,rfl,HB15,HC15⟩:=hcut
             obtain ⟨w15,hw15⟩:∃ y,y=wc:=⟨_,rfl⟩
             subst hw15
             have HZ15:=Lib.hid (BlkAt.keep HZ14.out.2 HB15.out)
             clear z0 z1 z2 z3 z4 zf HE14
             obtain ⟨z0,z1,z2,z3,z4,zf⟩:=b5t HZ15.out
             go_upto_if 104 with fail
             go_cut [19,20] from 105 to 111 (fun s19 s20 wx=>Hid (Below w15.heap.size w15 wx))
             case first =>
              cases cb with
              | false =>
                go_wp2_with fail
                go_meet
                exact Below.refl _ _
              | true =>
                obtain ⟨O,hO,hch⟩:=HC15.out rfl
                have HOF:=Lib.hid (cOf_any O ⟨zk,zn,zt,za,zl,zc,zb,zm,ze⟩ w15 (hO.imp (pure_keep HB15.out)))
                rw [hch] at HOF
                simp only [VC.val] at HOF
                clear hO hch
                go_wp2_with fail
                refine HOF.out.mono ?_
                rintro e wx ⟨hbx,rfl,-⟩
                have HBX:=Lib.hid (bel_alloc hbx (.cells #[.slice none 0 0,.slice none 0 0] 25))
                clear HOF hbx
                go_wp2_with fail
                go_meet
                exact HBX.out
             case rest =>
              have HB16:Hid (Below w15.heap.size w15 wc):=hcut
              clear hcut
              obtain ⟨w16,hw16⟩:∃ y,y=wc:=⟨_,rfl⟩
              subst hw16
              have HL16:Hid (Below w10.heap.size w10 w16):=below_more (below_more HL14.out HB15.out) HB16.out
              have BW16:Hid (Below w.heap.size w w16):=below_more B10.out HL16.out
              have KM16:=Lib.hid (BlkAt.keep KM10.out HL16.out)
              obtain ⟨m0,m1,mf⟩:=b2c KM16.out
              clear z0 z1 z2 z3 z4 zf HZ14 HZ15 HC15 HB15 HB16 HL14 KM10
              by_cases hn0:n2=0
              ·subst hn0
               go_wp2_with fail
               go_ret
               exact ⟨rfl,BW16.out⟩
              ·obtain ⟨q,hq⟩:∃ q,n2=q+1:=⟨n2 - 1,by omega⟩
               subst hq
               obtain ⟨hpm,hqe,X,ib,io,xa,xc,xb,xe,hX,rfl,c0,c1',c2',c3,c4,hvX,hit⟩:=maps_at HVP.out HN2.out
               subst hpm
               have hXw:wrongV X (namesR M.repos)=0:=(mayM_parts HMB.out).2.2.2.2.2 X (List.mem_of_getElem? hX)
               have hq16:q+1≤16:=by have:=(mayM_parts HMB.out).2.2.1;rw [HN2.out] at this;exact this
               obtain ⟨k,hk4,hkk⟩:=place4 kk
               have HLC:Hid (∀ (Y:World),Below w10.heap.size w10 Y→∀ j u,(xmCells [⟨tMapping,⟨pk,pn,pt,pa,pl,pc,some ⟨ib,io,none⟩,q+1,pe⟩,listJ (M.maps.map mapgJ)⟩,⟨tRepos,⟨qk,qn,qt,qa,ql,qc,qb,qm,qe⟩,reposJ M.repos⟩])[j]?=some u→Y.cell? ⟨mg,j,none⟩=some u):=fun Y hY j u hu=>cell_keep hY (own_cells HRO.out j u hu)
               have l1:=HLC.out _ HL16.out 1 (.int .u8 pk) rfl
               have l2:=HLC.out _ HL16.out 2 (.int .i64 pn) rfl
               have l3:=HLC.out _ HL16.out 3 (.string pt) rfl
               have l4:=HLC.out _ HL16.out 4 (.slice pa pl pc) rfl
               have l5:=HLC.out _ HL16.out 5 (.slice (some ⟨ib,io,none⟩) (q+1) pe) rfl
               have hb17:Below w16.heap.size w16 (w16.alloc (.cells #[.int .u8 pk,.int .i64 pn,.string pt,.slice pa pl pc,.slice (some ⟨ib,io,none⟩) (q+1) pe] 29)):=bel_alloc (Below.refl _ _) _
               obtain ⟨w17,hw17⟩:∃ y,y=w16.alloc (.cells #[.int .u8 pk,.int .i64 pn,.string pt,.slice pa pl pc,.slice (some ⟨ib,io,none⟩) (q+1) pe] 29):=⟨_,rfl⟩
               rw [← hw17] at hb17
               have HL17:Hid (Below w10.heap.size w10 w17):=below_more HL16.out hb17
               have HX17:Hid (BlkAt w17 w16.heap.size 29 #[.int .u8 pk,.int .i64 pn,.string pt,.slice pa pl pc,.slice (some ⟨ib,io,none⟩) (q+1) pe]):=by rw [hw17];exact blkAt_new w16 _ _
               obtain ⟨x0,x1,x2,x3,x4,xf⟩:=b5t HX17.out
               have HME2:=Lib.hid (members25_any (pureW w10) (mapgJ X) ⟨5,0,⟨#[]⟩,xa,4,xc,xb,4,xe⟩ w17 hvX (fun p u hu=>cell_keep HL17.out (pure_cell hu).2) rfl (by show 4≤1000;decide))
               simp only [VC.val] at HME2
               have d0:=cell_keep HL17.out (pure_cell c0).2
               have d1:=cell_keep HL17.out (pure_cell c1').2
               have d2:=cell_keep HL17.out (pure_cell c2').2
               have d3:=cell_keep HL17.out (pure_cell c3).2
               have d4:=cell_keep HL17.out (pure_cell c4).2
               have HXW:=Lib.hid hXw
               have HIT:=Lib.hid hit
               have HXX:=Lib.hid hX
               have HW17:=Lib.hid hw17
               have HB17:=Lib.hid hb17
               have HK4:=Lib.hid hk4
               have HQE:=Lib.hid hqe
               have hkw:IntKind.i64.wrap (k:Int)=(k:Int):=IntWalk.i64_in _ (by omega)
               have hqw:IntKind.i64.wrap ((q:Int)+1)=(q:Int)+1:=IntWalk.i64_in _ (by omega)
               have hqw2:IntKind.i64.wrap (q:Int)=(q:Int):=IntWalk.i64_in _ (by omega)
               have hq0:(0:Int)≤(q:Int):=by omega
               have hq1:(q:Int)<(q:Int)+1:=by omega
               rw [hw17] at x0 x1 x2 x3 x4 xf d0 d1 d2 d3 d4
               clear hXw hit hX hw17 hb17 c0 c1' c2' c3 c4 hvX hk4
               go_wp2_with fail
               rw [← HW17.out]
               refine HME2.out.mono ?_
               rintro e w18 ⟨rv,rfl,hb18,hrow⟩
               obtain ⟨p1,p2,p3,p4,pg,pc4,rfl,hpg,hpl,hro4,hv4⟩:=memRow_mapg hrow
               have HL18:Hid (Below w10.heap.size w10 w18):=below_more HL17.out hb18
               have HX18:=Lib.hid (BlkAt.keep HX17.out hb18)
               have HB1618:=Lib.hid (below_more HB17.out hb18)
               have HB1718:=Lib.hid hb18
               have HRO4:=Lib.hid hro4
               have HV4:=Lib.hid hv4
               have HPG:=Lib.hid hpg
               have HPL:=Lib.hid hpl
               have HW18:=Lib.hid hb18
               obtain ⟨hpc4,hpcm,-⟩:=own_blk hro4
               have HQW:=Lib.hid (And.intro hkw (And.intro hqw hqw2))
               clear hb18 hrow hro4 hv4 hpg hpl HME2 x0 x1 x2 x3 x4 xf d0 d1 d2 d3 d4 l1 l2 l3 l4 l5 HW17
               go_upto_region 29 with fail
               go_cut [25,26] from 143 to 156 (fun s25 s26 wx=>∃ (g:Nat) (z:VC),s25=.pointer (some ⟨g,0,none⟩)∧s26=.int .i64 0∧Hid (Below w18.heap.size w18 wx)∧Hid (w18.heap.size≤g∧BlkAt wx g 29 #[.int .u8 z.k,.int .i64 z.n,.string z.t,.slice z.a z.l z.c,.slice z.b z.m z.e])∧Hid (ValAt (pureW wx) (brokJ X k) z.val))
               case first =>
                obtain ⟨j0,hj0,hj1,hj2,hj3⟩:=info_parts infoPM
                have HJ0:=Lib.hid hj0
                have HJ1:=Lib.hid hj1
                have HJ2:=Lib.hid hj2
                have HJ3:=Lib.hid hj3
                have HPC:Hid (∀ (Y:World),Below w18.heap.size w18 Y→∀ j u,(xmCells (xs4 X p1 p2 p3 p4))[j]?=some u→Y.cell? ⟨pg,j,none⟩=some u):=fun Y hY j u hu=>cell_keep hY (own_cells HRO4.out j u hu)
                have hk4:=HK4.out
                have HC1:Hid ((xmCells ((xs4 X p1 p2 p3 p4).take k)).length=k*6):=by show _=_;rw [xmCells_len,List.length_take];show min k 4*6=k*6;omega
                have HC2:Hid ((xmCells ((xs4 X p1 p2 p3 p4).drop (k+1))).length=(3 - k)*6):=by show _=_;rw [xmCells_len,List.length_drop];show (4 - (k+1))*6=(3 - k)*6;omega
                have HK3:Hid (k+(3 - k)=3):=by show _=_;omega
                have HP4:=Lib.hid hpc4
                have HOB:Hid (∀ (g c:Nat) (Y:World),Below w18.heap.size w18 Y→Y.ownsRow w18.heap.size 41 6 (.slice (some ⟨g,0,none⟩) 3 c) 3 (xmCells ((xs4 X p1 p2 p3 p4).eraseIdx k))→Calls Tryz.prog 10 #[.slice (some ⟨g,0,none⟩) 3 c] Y fun e w'=>∃ z:VC,e=.returned (.tuple #[z.val,.int .i64 0])∧Below Y.heap.size Y w'∧NewV Y.heap.size w' (brokJ X k) z.val):=fun g c Y hY ho=>by
                 have h:=objectOf_xs ((xs4 X p1 p2 p3 p4).eraseIdx k) 3 g c Y (by rw [List.length_eraseIdx,if_pos (show k<(xs4 X p1 p2 p3 p4).length from HK4.out)];rfl) (by decide) (by decide) ((xs4_asc X p1 p2 p3 p4).sublist (List.eraseIdx_sublist _ _)) (fun y hy=>⟨(HV4.out y (List.mem_of_mem_eraseIdx hy)).1.imp (pure_keep (below_more HL18.out hY)),(HV4.out y (List.mem_of_mem_eraseIdx hy)).2⟩) (fun y hy=>xs4_wt (mapg_may HMB.out HXW.out) y (List.mem_of_mem_eraseIdx hy)) (own_cells ho)
                 rwa [objJ_erase HK4.out] at h
                have hkw:=HQW.out.1
                have hkw1:IntKind.i64.wrap ((k:Int)+1)=(k:Int)+1:=IntWalk.i64_in _ (by omega)
                have hkc:k≤pc4:=by omega
                have hkc1:k+1≤pc4:=by omega
                have hk5:k+1≤4:=by omega
                have hki:(k:Int)≤(pc4:Int):=by omega
                have hki1:(k:Int)+1≤(pc4:Int):=by omega
                have hki5:(k:Int)+1≤4:=by omega
                clear hj0 hj1 hj2 hj3
                refine wp_region_any (by kernel_rfl) ?_
                refine wpAny_putsR [(0,some 144),(1,some 145),(2,some 146),(3,some 147),(4,some 148),(5,some 149),(6,some 150),(7,some 151),(8,some 152),(9,some 153),(10,some 154),(11,some 143),(12,some 155),(13,some 156),(14,some 25),(15,none)] 16 [] (by kernel_rfl) (by kernel_rfl) (of_decide_eq_true (by kernel_rfl)) (lessI w18 X k p1 p2 p3 p4 (.slice (some ⟨pg,0,none⟩) 4 pc4) (.slice (some ⟨pg,0,none⟩) k pc4) (.slice (if pc4=k+1 then some ⟨pg,0,none⟩ else some ⟨pg,(k+1)*6,none⟩) (3 - k) (pc4 - (k+1)))) (fun vs=>by refine ⟨bel_drew (Below.refl _ _),?_,?_,?_,?_,?_,?_,?_,?_,?_,?_,?_,?_,?_,?_,?_,?_⟩ <;> exact fun h=>absurd ((none_done _ _).symm.trans h) (by decide)) ?_ ?_
                ·
                 refine PutStepsR.at rfl (fun dn vs Y hdn hcl hdep hI K hK=>?_) ?_
                 ·have HI0:=Lib.hid hI
                  simp only [putsOf,pqA,pqB,Act.put,pqC,pqD,pqE] at hK ⊢
                  clear hcl hdep hI hdn
                  go_simp
                  obtain ⟨i0,k0,k1,k2,k3,k4,k5,k6,k7,k8,k9,k10,k11,k12,k13,k14,k15⟩:=lessI_keep HI0.out (bel_alloc (Below.refl _ _) _)
                  exact hK.out (.slice (some ⟨Y.heap.size,0,none⟩) 0 0) _ _ rfl ⟨i0,fun _ _=>⟨_,rfl,HI0.out.1.size,blkAt_newC _ _ _⟩,k1,k2,k3,k4,k5,k6,k7,k8,k9,k10,k11,k12,k13,k14,k15⟩
                 refine PutStepsR.at rfl (fun dn vs Y hdn hcl hdep hI K hK=>?_) ?_
                 ·have HI0:=Lib.hid hI
                  simp only [putsOf,pqA,pqB,Act.put,pqC,pqD,pqE] at hK ⊢
                  clear hcl hdep hI hdn
                  go_simp
                  obtain ⟨i0,k0,k1,k2,k3,k4,k5,k6,k7,k8,k9,k10,k11,k12,k13,k14,k15⟩:=lessI_keep HI0.out (Below.refl _ _)
                  exact hK.out (.slice (some ⟨pg,0,none⟩) 4 pc4) _ _ rfl ⟨i0,k0,fun _=>rfl,k2,k3,k4,k5,k6,k7,k8,k9,k10,k11,k12,k13,k14,k15⟩
                 refine PutStepsR.at rfl (fun dn vs Y hdn hcl hdep hI K hK=>?_) ?_
                 ·have HI0:=Lib.hid hI
                  simp only [putsOf,pqA,pqB,Act.put,pqC,pqD,pqE] at hK ⊢
                  clear hcl hdep hI hdn
                  go_simp
                  obtain ⟨i0,k0,k1,k2,k3,k4,k5,k6,k7,k8,k9,k10,k11,k12,k13,k14,k15⟩:=lessI_keep HI0.out (Below.refl _ _)
                  exact hK.out (.int .i64 k) _ _ rfl ⟨i0,k0,k1,fun _=>rfl,k3,k4,k5,k6,k7,k8,k9,k10,k11,k12,k13,k14,k15⟩
                 refine PutStepsR.at rfl (fun dn vs Y hdn hcl hdep hI K hK=>?_) ?_
                 ·have e1:vs 1=.slice (some ⟨pg,0,none⟩) 4 pc4:=hI.2.2.1 (hdep 1 (by kernel_rfl))
                  have e2:vs 2=.int .i64 k:=hI.2.2.2.1 (hdep 2 (by kernel_rfl))
                  have HI0:=Lib.hid hI
                  simp only [putsOf,pqA,pqB,Act.put,pqC,pqD,pqE] at hK ⊢
                  rw [e1,e2] at hK ⊢
                  clear hcl hdep hI hdn
                  go_simp
                  obtain ⟨i0,k0,k1,k2,k3,k4,k5,k6,k7,k8,k9,k10,k11,k12,k13,k14,k15⟩:=lessI_keep HI0.out (Below.refl _ _)
                  exact hK.out (.slice (some ⟨pg,0,none⟩) k pc4) _ _ rfl ⟨i0,k0,k1,k2,fun _=>rfl,k4,k5,k6,k7,k8,k9,k10,k11,k12,k13,k14,k15⟩
                 refine PutStepsR.at rfl (fun dn vs Y hdn hcl hdep hI K hK=>?_) ?_
                 ·have d0:=hdep 0 (by kernel_rfl)
                  have d3:=hdep 3 (by kernel_rfl)
                  obtain ⟨i0,k0,k1,k2,k3,k4,k5,k6,k7,k8,k9,k10,k11,k12,k13,k14,k15⟩:=hI
                  obtain ⟨g0,e0,hg0,hB0⟩:=k0 d0 hdn
                  have e3:=k3 d3
                  simp only [putsOf,pqA,pqB,Act.put,pqC,pqD,pqE] at hK ⊢
                  rw [e0,e3] at hK ⊢
                  rw [if_pos]
                  rotate_left
                  ·rfl
                  refine wp_append_anyC Y _ _ _ rfl w18.heap.size 41 j0 _ 6 96 Tryz.underlying37 HJ0.out HJ1.out HJ2.out HJ3.out rfl (by decide) (.slice (some ⟨g0,0,none⟩) 0 0) 0 [] rfl (own_zeroM hg0 hB0) (some ⟨pg,0,none⟩) k pc4 (xmCells ((xs4 X p1 p2 p3 p4).take k)) rfl HC1.out (xm_news1 (HPC.out Y i0) k) (xm_one _) (by unfold maxLen;omega) (by omega) i0.size ?_
                  intro v' w' hown hgr hat
                  have hbw:Below w18.heap.size w18 w':=i0.grown hgr i0.size (fun k hk=>by have e2:g0=k:=Option.some.inj hk;omega)
                  rw [Nat.zero_add,List.nil_append] at hown
                  refine hK.out v' _ _ rfl ⟨hbw,fun _ h=>(by cases h),k1,k2,k3,fun _ _=>hown,k5,k6,k7,k8,fun a=>?_,fun a=>?_,k11,k12,k13,fun a=>?_,fun a=>?_⟩
                  ·have h3:=hcl 9 4 a (by kernel_rfl)
                   rw [hdn] at h3
                   cases h3
                  ·have h2:=hcl 9 4 (hcl 10 9 a (by kernel_rfl)) (by kernel_rfl)
                   rw [hdn] at h2
                   cases h2
                  ·obtain ⟨g,q1,q2,q3⟩:=k14 a
                   refine ⟨g,q1,q2,fun h=>?_⟩
                   have q3:=q3 h
                   have hne:g≠g0:=fun e=>by subst e;exact blk_apart q3 hB0 (by simp)
                   exact (hgr.block g q3.lt (fun e=>hne (Option.some.inj e))).trans q3
                  ·have h3:=hcl 15 4 a (by kernel_rfl)
                   rw [hdn] at h3
                   cases h3
                 refine PutStepsR.at rfl (fun dn vs Y hdn hcl hdep hI K hK=>?_) ?_
                 ·have HI0:=Lib.hid hI
                  simp only [putsOf,pqA,pqB,Act.put,pqC,pqD,pqE] at hK ⊢
                  clear hcl hdep hI hdn
                  go_simp
                  obtain ⟨i0,k0,k1,k2,k3,k4,k5,k6,k7,k8,k9,k10,k11,k12,k13,k14,k15⟩:=lessI_keep HI0.out (Below.refl _ _)
                  exact hK.out (.slice (some ⟨pg,0,none⟩) 4 pc4) _ _ rfl ⟨i0,k0,k1,k2,k3,k4,fun _=>rfl,k6,k7,k8,k9,k10,k11,k12,k13,k14,k15⟩
                 refine PutStepsR.at rfl (fun dn vs Y hdn hcl hdep hI K hK=>?_) ?_
                 ·have HI0:=Lib.hid hI
                  simp only [putsOf,pqA,pqB,Act.put,pqC,pqD,pqE] at hK ⊢
                  clear hcl hdep hI hdn
                  go_simp
                  obtain ⟨i0,k0,k1,k2,k3,k4,k5,k6,k7,k8,k9,k10,k11,k12,k13,k14,k15⟩:=lessI_keep HI0.out (Below.refl _ _)
                  exact hK.out (.int .i64 k) _ _ rfl ⟨i0,k0,k1,k2,k3,k4,k5,fun _=>rfl,k7,k8,k9,k10,k11,k12,k13,k14,k15⟩
                 refine PutStepsR.at rfl (fun dn vs Y hdn hcl hdep hI K hK=>?_) ?_
                 ·have e6:vs 6=.int .i64 k:=hI.2.2.2.2.2.2.2.1 (hdep 6 (by kernel_rfl))
                  have HI0:=Lib.hid hI
                  simp only [putsOf,pqA,pqB,Act.put,pqC,pqD,pqE] at hK ⊢
                  rw [e6] at hK ⊢
                  clear hcl hdep hI hdn
                  go_simp
                  obtain ⟨i0,k0,k1,k2,k3,k4,k5,k6,k7,k8,k9,k10,k11,k12,k13,k14,k15⟩:=lessI_keep HI0.out (Below.refl _ _)
                  exact hK.out (.int .i64 (k+1)) _ _ rfl ⟨i0,k0,k1,k2,k3,k4,k5,k6,fun _=>rfl,k8,k9,k10,k11,k12,k13,k14,k15⟩
                 refine PutStepsR.at rfl (fun dn vs Y hdn hcl hdep hI K hK=>?_) ?_
                 ·have e5:vs 5=.slice (some ⟨pg,0,none⟩) 4 pc4:=hI.2.2.2.2.2.2.1 (hdep 5 (by kernel_rfl))
                  have e7:vs 7=.int .i64 (k+1):=hI.2.2.2.2.2.2.2.2.1 (hdep 7 (by kernel_rfl))
                  have HI0:=Lib.hid hI
                  simp only [putsOf,pqA,pqB,Act.put,pqC,pqD,pqE] at hK ⊢
                  rw [e5,e7] at hK ⊢
                  clear hcl hdep hI hdn
                  go_simp
                  obtain ⟨i0,k0,k1,k2,k3,k4,k5,k6,k7,k8,k9,k10,k11,k12,k13,k14,k15⟩:=lessI_keep HI0.out (Below.refl _ _)
                  exact hK.out (.slice (if pc4=k+1 then some ⟨pg,0,none⟩ else some ⟨pg,(k+1)*6,none⟩) (3 - k) (pc4 - (k+1))) _ _ rfl ⟨i0,k0,k1,k2,k3,k4,k5,k6,k7,fun _=>rfl,k9,k10,k11,k12,k13,k14,k15⟩
                 refine PutStepsR.at rfl (fun dn vs Y hdn hcl hdep hI K hK=>?_) ?_
                 ·have d4:=hdep 4 (by kernel_rfl)
                  have d8:=hdep 8 (by kernel_rfl)
                  obtain ⟨i0,k0,k1,k2,k3,k4,k5,k6,k7,k8,k9,k10,k11,k12,k13,k14,k15⟩:=hI
                  have h4:=k4 d4 hdn
                  have e8:=k8 d8
                  simp only [putsOf,pqA,pqB,Act.put,pqC,pqD,pqE] at hK ⊢
                  rw [e8] at hK ⊢
                  rw [if_pos]
                  rotate_left
                  ·rfl
                  refine wp_append_anyC Y _ _ _ rfl w18.heap.size 41 j0 _ 6 96 Tryz.underlying37 HJ0.out HJ1.out HJ2.out HJ3.out rfl (by decide) (vs 4) k (xmCells ((xs4 X p1 p2 p3 p4).take k)) rfl h4 _ (3 - k) (pc4 - (k+1)) (xmCells ((xs4 X p1 p2 p3 p4).drop (k+1))) rfl HC2.out (xm_news2 (HPC.out Y i0) rfl HP4.out HK4.out) (xm_one _) (by unfold maxLen;omega) (by omega) i0.size ?_
                  intro v' w' hown hgr hat
                  have hbw:Below w18.heap.size w18 w':=i0.grown hgr i0.size (fun k hk=>(World.ownsRow.lt h4 k hk).1)
                  rw [← xm_split,HK3.out] at hown
                  refine hK.out v' _ _ rfl ⟨hbw,fun _ h=>?_,k1,k2,k3,fun _ h=>(by cases h),k5,k6,k7,k8,fun _ _=>hown,fun a=>?_,k11,k12,k13,fun a=>?_,fun a=>?_⟩
                  ·have h3:dn 4=false:=h
                   rw [d4] at h3
                   cases h3
                  ·have h3:=hcl 10 9 a (by kernel_rfl)
                   rw [hdn] at h3
                   cases h3
                  ·obtain ⟨g,q1,q2,q3⟩:=k14 a
                   refine ⟨g,q1,q2,fun h=>?_⟩
                   have q3:=q3 h
                   refine (hgr.block g q3.lt (fun e=>?_)).trans q3
                   obtain ⟨g4,c4,e4⟩:=own_slice h4 e.symm
                   rw [e4] at h4
                   exact row_apartB h4 q3 (by decide)
                  ·have h3:=hcl 15 9 a (by kernel_rfl)
                   rw [hdn] at h3
                   cases h3
                 refine PutStepsR.at rfl (fun dn vs Y hdn hcl hdep hI K hK=>?_) ?_
                 ·have d15:dn 15=false:=by
                   cases h:dn 15 with
                   | false=>rfl
                   | true=>have h3:=hcl 15 10 h (by kernel_rfl);rw [hdn] at h3;cases h3
                  have h9:=hI.2.2.2.2.2.2.2.2.2.2.1 (hdep 9 (by kernel_rfl)) d15
                  obtain ⟨g9,c9,e9,-,-⟩:=World.ownsRow.form h9 (by decide)
                  rw [e9] at h9
                  have HI0:=Lib.hid hI
                  have HCL:=Lib.hid hcl
                  have HDN:=Lib.hid hdn
                  have H9:=Lib.hid h9
                  have D15:=Lib.hid d15
                  simp only [putsOf,pqA,pqB,Act.put,pqC,pqD,pqE] at hK ⊢
                  rw [e9] at hK ⊢
                  clear hcl hdep hI hdn h9 d15
                  go_simp
                  refine (HOB.out g9 c9 Y HI0.out.1 H9.out).mono ?_
                  rintro e w' ⟨z,rfl,hbz,hnz⟩
                  obtain ⟨i0,k0,k1,k2,k3,k4,k5,k6,k7,k8,k9,k10,k11,k12,k13,k14,k15⟩:=lessI_keep HI0.out hbz
                  refine hK.out _ _ _ rfl ⟨i0,k0,k1,k2,k3,k4,k5,k6,k7,k8,k9,fun _=>⟨z,rfl,fun _=>NewV.low hnz HI0.out.1.size,fun g h7 e7=>?_⟩,fun a=>?_,k12,k13,k14,k15⟩
                  ·obtain ⟨g',q1,q2,q3⟩:=HI0.out.2.2.2.2.2.2.2.2.2.2.2.2.2.2.2.1 h7
                   have q3:=q3 D15.out
                   have e7':vs 14=.pointer (some ⟨g,0,none⟩):=e7
                   rw [q1] at e7'
                   have hgg:g'=g:=by simpa using e7'
                   have hlt:=q3.lt
                   exact (show ValAt (hidden (offB Y.heap.size none) w') _ _ from hnz).imp (hid_imp fun k hk hP=>⟨offB_no.2 ⟨Nat.le_trans HI0.out.1.size (offB_none.1 hP),fun e=>by have:=Option.some.inj e;have:=offB_none.1 hP;omega⟩,rfl⟩)
                  ·have h3:=HCL.out 11 10 a (by kernel_rfl)
                   rw [HDN.out] at h3
                   cases h3
                 refine PutStepsR.at rfl (fun dn vs Y hdn hcl hdep hI K hK=>?_) ?_
                 ·have HI0:=Lib.hid hI
                  have HCL:=Lib.hid hcl
                  have HDN:=Lib.hid hdn
                  simp only [putsOf,pqA,pqB,Act.put,pqC,pqD,pqE] at hK ⊢
                  clear hcl hdep hI hdn
                  go_simp
                  obtain ⟨i0,k0,k1,k2,k3,k4,k5,k6,k7,k8,k9,k10,k11,k12,k13,k14,k15⟩:=HI0.out
                  refine hK.out (vs 10) _ _ rfl ⟨i0,k0,k1,k2,k3,k4,k5,k6,k7,k8,k9,k10,fun _=>rfl,fun a=>?_,fun a=>?_,k14,k15⟩
                  ·have h3:=HCL.out 12 11 a (by kernel_rfl)
                   rw [HDN.out] at h3
                   cases h3
                  ·have h3:=HCL.out 13 11 a (by kernel_rfl)
                   rw [HDN.out] at h3
                   cases h3
                 refine PutStepsR.at rfl (fun dn vs Y hdn hcl hdep hI K hK=>?_) ?_
                 ·have d11:=hdep 11 (by kernel_rfl)
                  have D10:=Lib.hid (hcl 11 10 d11 (by kernel_rfl))
                  have D11:=Lib.hid d11
                  have HI0:=Lib.hid hI
                  have HCL:=Lib.hid hcl
                  have HDN:=Lib.hid hdn
                  simp only [putsOf,pqA,pqB,Act.put,pqC,pqD,pqE] at hK ⊢
                  clear hcl hdep hI hdn d11
                  go_simp
                  obtain ⟨⟨zk,zn,zt,za,zl,zc,zb,zm,ze⟩,e7,-⟩:=HI0.out.2.2.2.2.2.2.2.2.2.2.2.1 D10.out
                  have e8:vs 11=.tuple #[.agg #[.int .u8 zk,.int .i64 zn,.string zt,.slice za zl zc,.slice zb zm ze],.int .i64 0]:=(HI0.out.2.2.2.2.2.2.2.2.2.2.2.2.1 D11.out).trans e7
                  clear e7
                  rw [e8] at hK ⊢
                  go_simp
                  obtain ⟨i0,k0,k1,k2,k3,k4,k5,k6,k7,k8,k9,k10,k11,k12,k13,k14,k15⟩:=HI0.out
                  exact hK.out (.agg #[.int .u8 zk,.int .i64 zn,.string zt,.slice za zl zc,.slice zb zm ze]) _ _ rfl ⟨i0,k0,k1,k2,k3,k4,k5,k6,k7,k8,k9,k10,k11,fun _ a b h=>by
                   have h':vs 11=.tuple #[a,b]:=h
                   rw [e8] at h'
                   simp only [Value.tuple.injEq,Array.mk.injEq,List.cons.injEq,and_true] at h'
                   exact h'.1,k13,k14,fun a=>by
                   have h3:=HCL.out 15 12 a (by kernel_rfl);rw [HDN.out] at h3;cases h3⟩
                 refine PutStepsR.at rfl (fun dn vs Y hdn hcl hdep hI K hK=>?_) ?_
                 ·have d11:=hdep 11 (by kernel_rfl)
                  have D10:=Lib.hid (hcl 11 10 d11 (by kernel_rfl))
                  have D11:=Lib.hid d11
                  have HI0:=Lib.hid hI
                  have HCL:=Lib.hid hcl
                  have HDN:=Lib.hid hdn
                  simp only [putsOf,pqA,pqB,Act.put,pqC,pqD,pqE] at hK ⊢
                  clear hcl hdep hI hdn d11
                  go_simp
                  obtain ⟨⟨zk,zn,zt,za,zl,zc,zb,zm,ze⟩,e7,-⟩:=HI0.out.2.2.2.2.2.2.2.2.2.2.2.1 D10.out
                  have e8:vs 11=.tuple #[.agg #[.int .u8 zk,.int .i64 zn,.string zt,.slice za zl zc,.slice zb zm ze],.int .i64 0]:=(HI0.out.2.2.2.2.2.2.2.2.2.2.2.2.1 D11.out).trans e7
                  clear e7
                  rw [e8] at hK ⊢
                  go_simp
                  obtain ⟨i0,k0,k1,k2,k3,k4,k5,k6,k7,k8,k9,k10,k11,k12,k13,k14,k15⟩:=HI0.out
                  exact hK.out (.int .i64 0) _ _ rfl ⟨i0,k0,k1,k2,k3,k4,k5,k6,k7,k8,k9,k10,k11,k12,fun _ a b h=>by
                   have h':vs 11=.tuple #[a,b]:=h
                   rw [e8] at h'
                   simp only [Value.tuple.injEq,Array.mk.injEq,List.cons.injEq,and_true] at h'
                   exact h'.2,k14,k15⟩
                 refine PutStepsR.at rfl (fun dn vs Y hdn hcl hdep hI K hK=>?_) ?_
                 ·have d15:dn 15=false:=by
                   cases h:dn 15 with
                   | false=>rfl
                   | true=>have h3:=hcl 15 14 h (by kernel_rfl);rw [hdn] at h3;cases h3
                  have D15:=Lib.hid d15
                  have HI0:=Lib.hid hI
                  have HCL:=Lib.hid hcl
                  have HDN:=Lib.hid hdn
                  simp only [putsOf,pqA,pqB,Act.put,pqC,pqD,pqE] at hK ⊢
                  clear hcl hdep hI hdn d15
                  go_simp
                  obtain ⟨i0,k0,k1,k2,k3,k4,k5,k6,k7,k8,k9,k10,k11,k12,k13,k14,k15⟩:=lessI_keep HI0.out (bel_alloc (Below.refl _ _) _)
                  refine hK.out (.pointer (some ⟨Y.heap.size,0,none⟩)) _ _ rfl ⟨i0,k0,k1,k2,k3,k4,k5,k6,k7,k8,k9,fun a=>?_,k11,k12,k13,fun _=>⟨_,rfl,HI0.out.1.size,fun _=>blkAt_newC _ _ _⟩,fun a=>?_⟩
                  ·obtain ⟨z,e7,h2,-⟩:=HI0.out.2.2.2.2.2.2.2.2.2.2.2.1 a
                   have h2:=h2 D15.out
                   refine ⟨z,e7,fun _=>h2.keepB (bel_alloc (Below.refl _ _) _),fun g _ e7=>?_⟩
                   have hgg:Y.heap.size=g:=by
                    have e7':Value.pointer (some ⟨Y.heap.size,0,none⟩)=.pointer (some ⟨g,0,none⟩):=e7
                    simpa using e7'
                   exact (show ValAt (hidden (offB w18.heap.size none) Y) _ _ from h2).imp (hid_imp fun k hk hP=>⟨offB_no.2 ⟨offB_none.1 hP,fun e=>by have:=Option.some.inj e;omega⟩,(bel_alloc (Below.refl _ _) _).block k hk⟩)
                  ·have h3:=HCL.out 15 14 a (by kernel_rfl)
                   rw [HDN.out] at h3
                   cases h3
                 refine PutStepsR.at rfl (fun dn vs Y hdn hcl hdep hI K hK=>?_) PutStepsR.nil
                 ·have D4:=Lib.hid (hdep 4 (by kernel_rfl))
                  have D9:=Lib.hid (hdep 9 (by kernel_rfl))
                  have D10:=Lib.hid (hdep 10 (by kernel_rfl))
                  have D11:=Lib.hid (hdep 11 (by kernel_rfl))
                  have D12:=Lib.hid (hdep 12 (by kernel_rfl))
                  have D14:=Lib.hid (hdep 14 (by kernel_rfl))
                  have HI0:=Lib.hid hI
                  have D15:=Lib.hid hdn
                  simp only [putsOf,pqA,pqB,Act.put,pqC,pqD,pqE] at hK ⊢
                  clear hcl hdep hdn hI
                  go_simp
                  obtain ⟨i0,k0,k1,k2,k3,k4,k5,k6,k7,k8,k9,k10,k11,k12,k13,k14,k15⟩:=HI0.out
                  obtain ⟨⟨zk,zn,zt,za,zl,zc,zb,zm,ze⟩,e7,hc⟩:=k10 D10.out
                  have e8:=(k11 D11.out).trans e7
                  have e9:vs 12=.agg #[.int .u8 zk,.int .i64 zn,.string zt,.slice za zl zc,.slice zb zm ze]:=k12 D12.out _ _ e8
                  obtain ⟨g,e11,hg,hZ⟩:=k14 D14.out
                  have hZ:=hZ D15.out
                  obtain ⟨z0,z1,z2,z3,z4,zf⟩:=b5t hZ
                  have HA:=Lib.hid (And.intro i0 (And.intro k1 (And.intro k2 (And.intro k3 (And.intro k5 (And.intro k6 (And.intro k7 (And.intro k8 (And.intro k11 (And.intro k12 k13))))))))))
                  have HC:=Lib.hid hc.2
                  have HE7:=Lib.hid e7
                  have HE9:=Lib.hid e9
                  have HE11:=Lib.hid e11
                  have HG:=Lib.hid hg
                  have HZ:=Lib.hid hZ
                  rw [e9,e11] at hK ⊢
                  clear i0 k0 k1 k2 k3 k4 k5 k6 k7 k8 k9 k10 k11 k12 k13 k14 k15 hc e7 e8 e9 e11 hg hZ
                  go_simp
                  obtain ⟨i0,k1,k2,k3,k5,k6,k7,k8,k11,k12,k13⟩:=HA.out
                  refine hK.out (.int .i64 0) _ _ rfl ⟨bset5 i0 HG.out _ _ _ _ _,fun _ h=>?_,k1,k2,k3,fun _ h=>?_,k5,k6,k7,k8,fun _ h=>(by cases h),fun _=>⟨⟨zk,zn,zt,za,zl,zc,zb,zm,ze⟩,HE7.out,fun h=>(by cases h),fun g' _ e'=>?_⟩,k11,k12,k13,fun _=>⟨g,HE11.out,HG.out,fun h=>(by cases h)⟩,fun _=>⟨⟨zk,zn,zt,za,zl,zc,zb,zm,ze⟩,g,HE9.out,HE11.out,HG.out,blk_set5 HZ.out _ _ _ _ _⟩⟩
                  ·have h3:dn 4=false:=h
                   rw [D4.out] at h3
                   cases h3
                  ·have h3:dn 9=false:=h
                   rw [D9.out] at h3
                   cases h3
                  ·have hgg:g=g':=by
                    have e7':vs 14=.pointer (some ⟨g',0,none⟩):=e'
                    rw [HE11.out] at e7'
                    simpa using e7'
                   subst hgg
                   exact (HC.out g D14.out HE11.out).imp (hid_imp fun k hk hP=>⟨hP,heap_set5 _ _ _ _ _ _ _ _ (fun e=>(offB_no.1 hP).2 (by rw [e]))⟩)
                ·intro dn vs Y hall hI
                 obtain ⟨i0,-,-,-,-,-,-,-,-,-,-,k10,k11,k12,k13,-,k15⟩:=hI
                 obtain ⟨z,e7,hc⟩:=k10 (hall 10 rfl)
                 have e8:=(k11 (hall 11 rfl)).trans e7
                 have e9:=k12 (hall 12 rfl) _ _ e8
                 have e10:=k13 (hall 13 rfl) _ _ e8
                 obtain ⟨z',g,e9',e11,hg,hZ⟩:=k15 (hall 15 rfl)
                 obtain rfl:=vc_inj (e9'.symm.trans e9)
                 have hrel:∃ (g:Nat) (z:VC),vs 14=.pointer (some ⟨g,0,none⟩)∧vs 13=.int .i64 0∧Hid (Below w18.heap.size w18 Y)∧Hid (w18.heap.size≤g∧BlkAt Y g 29 #[.int .u8 z.k,.int .i64 z.n,.string z.t,.slice z.a z.l z.c,.slice z.b z.m z.e])∧Hid (ValAt (pureW Y) (brokJ X k) z.val) :=
                  ⟨g,z',e11,e10,i0,⟨hg,hZ⟩,(hc.2 g (hall 14 rfl) e11).imp (hid_imp fun k hk hP=>⟨rfl,rfl⟩)⟩
                 obtain ⟨g,z,e11,e10,hb,hz,hc⟩:=hrel
                 clear k10 k11 k12 k13 k15 hall i0
                 simp only [putsOf,pqA,pqB,Act.put,pqC,pqD,pqE]
                 simp only [List.filterMap_cons,List.filterMap_nil,nthO]
                 rw [e10,e11]
                 refine wpList_plain rfl fun K hK=>?_
                 go_simp
                 refine hK _ _ ?_
                 refine wpList_nil ?_
                 go_wp2_with fail
                 go_meet
                 exact ⟨g,z,rfl,rfl,hb,hz,hc⟩
               case rest =>
                obtain ⟨g25,⟨zk,zn,zt,za,zl,zc,zb,zm,ze⟩,rfl,rfl,HB19,HZ19,HV19⟩:=hcut
                obtain ⟨w19,hw19⟩:∃ y,y=wc:=⟨_,rfl⟩
                subst hw19
                have HL19:Hid (Below w10.heap.size w10 w19):=below_more HL18.out HB19.out
                have HX19:=Lib.hid (BlkAt.keep HX18.out HB19.out)
                obtain ⟨z0,z1,z2,z3,z4,zf⟩:=b5t HZ19.out.2
                obtain ⟨x0,x1,x2,x3,x4,xf⟩:=b5t HX19.out
                have l6:=HLC.out _ HL19.out 6 (.string tRepos) rfl
                have l7:=HLC.out _ HL19.out 7 (.int .u8 qk) rfl
                have l8:=HLC.out _ HL19.out 8 (.int .i64 qn) rfl
                have l9:=HLC.out _ HL19.out 9 (.string qt) rfl
                have l10:=HLC.out _ HL19.out 10 (.slice qa ql qc) rfl
                have l11:=HLC.out _ HL19.out 11 (.slice qb qm qe) rfl
                have HPQ:Hid (((M.maps.take q).map mapgJ).length=q):=by show _=_;rw [List.length_map,List.length_take,HN2.out];omega
                have HTK:Hid (∀ x ∈ M.maps.take q,wrongV x (namesR M.repos)=0):=fun x hx=>(mayM_parts HMB.out).2.2.2.2.2 x (List.mem_of_mem_take hx)
                have hq16':q+1≤16:=hq16
                have hqi:(q:Int)≤(pe:Int):=by have:=HQE.out;omega
                have HSY:Hid (∀ Y,Below w19.heap.size w19 Y→Calls Tryz.prog 13 #[.agg #[.int .u8 zk,.int .i64 zn,.string zt,.slice za zl zc,.slice zb zm ze],.slice (some ⟨ib,io,none⟩) q pe,.agg #[.string tRepos,.int .u8 qk,.int .i64 qn,.string qt,.slice qa ql qc,.slice qb qm qe],.int .i64 6] Y fun e w'=>e=.returned (.bool true)∧Below Y.heap.size Y w'):=fun Y hY =>
                 says_use HMB.out HTK.out HPQ.out hq16' (brok_good HMB.out HXW.out HK4.out) ⟨zk,zn,zt,za,zl,zc,zb,zm,ze⟩ ⟨qk,qn,qt,qa,ql,qc,qb,qm,qe⟩ ib io pe 6 Y ((HIT.out pe HQE.out).imp (pure_keep (below_more HL19.out hY))) (HV19.out.imp (pure_keep hY)) (HVQ.out.imp (pure_keep (below_more HL19.out hY))) (by
                  rw [say_bad HMB.out HTK.out (by rw [List.length_take,HN2.out];omega) (brok_bad HXW.out (by rw [namesR,List.length_map];exact (mayM_parts HMB.out).2.1) HK4.out) (by decide) (brok_good HMB.out HXW.out HK4.out)]
                  rfl)
                go_upto_region 30 with fail
                go_cut [166] from 157 to 166 (fun s166 wx=>s166=.bool false∧Hid (Below w19.heap.size w19 wx))
                case first =>
                 refine wp_region_any (by kernel_rfl) ?_
                 refine wpAny_puts [(0,some 157),(1,some 158),(2,some 159),(3,some 160),(4,some 161),(5,some 162),(6,some 163),(7,some 164),(8,some 165)] 9 [] (by kernel_rfl) (by kernel_rfl) (of_decide_eq_true (by kernel_rfl)) (fun w'=>Below w19.heap.size w19 w') (lit14 (.agg #[.int .u8 zk,.int .i64 zn,.string zt,.slice za zl zc,.slice zb zm ze]) (.pointer (some ⟨w16.heap.size,4,none⟩)) (.slice (some ⟨ib,io,none⟩) (q+1) pe) (.int .i64 q) (.slice (some ⟨ib,io,none⟩) q pe) (.slice (some ⟨mg,0,none⟩) 2 mc) (.pointer (some ⟨mg,6,none⟩)) (.agg #[.string tRepos,.int .u8 qk,.int .i64 qn,.string qt,.slice qa ql qc,.slice qb qm qe]) (.bool true) (undef) (undef) (undef) (undef) (undef)) (fun _ _ _ _ h _=>h) (bel_drew (Below.refl _ _)) ?_ ?_
                 ·
                  refine PutSteps.at rfl (fun vs Y hG hdep K hK=>?_) ?_
                  ·have g0:=cell_keep hG z0
                   have g1:=cell_keep hG z1
                   have g2:=cell_keep hG z2
                   have g3:=cell_keep hG z3
                   have g4:=cell_keep hG z4
                   simp only [putsOf,pqA,pqB,Act.put,pqC,pqD,pqE] at hK ⊢
                   go_simp
                   exact hK.out (.agg #[.int .u8 zk,.int .i64 zn,.string zt,.slice za zl zc,.slice zb zm ze]) _ _ rfl hG (Below.refl _ _) rfl
                  refine PutSteps.at rfl (fun vs Y hG hdep K hK=>?_) ?_
                  ·simp only [putsOf,pqA,pqB,Act.put,pqC,pqD,pqE] at hK ⊢
                   go_simp
                   exact hK.out (.pointer (some ⟨w16.heap.size,4,none⟩)) _ _ rfl hG (Below.refl _ _) rfl
                  refine PutSteps.at rfl (fun vs Y hG hdep K hK=>?_) ?_
                  ·have e1:vs 1=.pointer (some ⟨w16.heap.size,4,none⟩):=hdep 1 rfl (by kernel_rfl)
                   have g4:=cell_keep hG x4
                   simp only [putsOf,pqA,pqB,Act.put,pqC,pqD,pqE] at hK ⊢
                   rw [e1] at hK ⊢
                   go_simp
                   exact hK.out (.slice (some ⟨ib,io,none⟩) (q+1) pe) _ _ rfl hG (Below.refl _ _) rfl
                  refine PutSteps.at rfl (fun vs Y hG hdep K hK=>?_) ?_
                  ·simp only [putsOf,pqA,pqB,Act.put,pqC,pqD,pqE] at hK ⊢
                   go_simp
                   exact hK.out (.int .i64 q) _ _ rfl hG (Below.refl _ _) rfl
                  refine PutSteps.at rfl (fun vs Y hG hdep K hK=>?_) ?_
                  ·have e2:vs 2=.slice (some ⟨ib,io,none⟩) (q+1) pe:=hdep 2 rfl (by kernel_rfl)
                   have e3:vs 3=.int .i64 q:=hdep 3 rfl (by kernel_rfl)
                   simp only [putsOf,pqA,pqB,Act.put,pqC,pqD,pqE] at hK ⊢
                   rw [e2,e3] at hK ⊢
                   go_simp
                   exact hK.out (.slice (some ⟨ib,io,none⟩) q pe) _ _ rfl hG (Below.refl _ _) rfl
                  refine PutSteps.at rfl (fun vs Y hG hdep K hK=>?_) ?_
                  ·simp only [putsOf,pqA,pqB,Act.put,pqC,pqD,pqE] at hK ⊢
                   go_simp
                   exact hK.out (.slice (some ⟨mg,0,none⟩) 2 mc) _ _ rfl hG (Below.refl _ _) rfl
                  refine PutSteps.at rfl (fun vs Y hG hdep K hK=>?_) ?_
                  ·have e5:vs 5=.slice (some ⟨mg,0,none⟩) 2 mc:=hdep 5 rfl (by kernel_rfl)
                   simp only [putsOf,pqA,pqB,Act.put,pqC,pqD,pqE] at hK ⊢
                   rw [e5] at hK ⊢
                   go_simp
                   exact hK.out (.pointer (some ⟨mg,6,none⟩)) _ _ rfl hG (Below.refl _ _) rfl
                  refine PutSteps.at rfl (fun vs Y hG hdep K hK=>?_) ?_
                  ·have e6:vs 6=.pointer (some ⟨mg,6,none⟩):=hdep 6 rfl (by kernel_rfl)
                   have g6:=cell_keep hG l6
                   have g7:=cell_keep hG l7
                   have g8:=cell_keep hG l8
                   have g9:=cell_keep hG l9
                   have g10:=cell_keep hG l10
                   have g11:=cell_keep hG l11
                   simp only [putsOf,pqA,pqB,Act.put,pqC,pqD,pqE] at hK ⊢
                   rw [e6] at hK ⊢
                   go_simp
                   exact hK.out (.agg #[.string tRepos,.int .u8 qk,.int .i64 qn,.string qt,.slice qa ql qc,.slice qb qm qe]) _ _ rfl hG (Below.refl _ _) rfl
                  refine PutSteps.at rfl (fun vs Y hG hdep K hK=>?_) PutSteps.nil
                  ·have e0:vs 0=.agg #[.int .u8 zk,.int .i64 zn,.string zt,.slice za zl zc,.slice zb zm ze]:=hdep 0 rfl (by kernel_rfl)
                   have e4:vs 4=.slice (some ⟨ib,io,none⟩) q pe:=hdep 4 rfl (by kernel_rfl)
                   have e7:vs 7=.agg #[.string tRepos,.int .u8 qk,.int .i64 qn,.string qt,.slice qa ql qc,.slice qb qm qe]:=hdep 7 rfl (by kernel_rfl)
                   simp only [putsOf,pqA,pqB,Act.put,pqC,pqD,pqE] at hK ⊢
                   rw [e0,e4,e7] at hK ⊢
                   go_simp
                   refine (HSY.out Y hG).mono ?_
                   rintro e w' ⟨rfl,hbz⟩
                   exact hK.out (.bool true) _ _ rfl (below_more hG hbz) hbz rfl
                 ·intro vs Y hG hall
                  have e8:vs 8=.bool true:=hall 8 rfl
                  simp only [putsOf,pqA,pqB,Act.put,pqC,pqD,pqE]
                  simp only [List.filterMap_cons,List.filterMap_nil,nthO]
                  rw [e8]
                  refine wpList_plain rfl fun K hK=>?_
                  go_simp
                  refine hK _ _ ?_
                  refine wpList_nil ?_
                  go_wp2_with fail
                  go_meet
                  exact ⟨rfl,hG⟩
                case rest =>
                 obtain ⟨rfl,HB20⟩:=hcut
                 obtain ⟨w20,hw20⟩:∃ y,y=wc:=⟨_,rfl⟩
                 subst hw20
                 have HL20:Hid (Below w10.heap.size w10 w20):=below_more HL19.out HB20.out
                 have HX20:=Lib.hid (BlkAt.keep HX19.out HB20.out)
                 have HB18:Hid (Below w18.heap.size w18 w20):=below_more HB19.out HB20.out
                 clear z0 z1 z2 z3 z4 zf x0 x1 x2 x3 x4 xf l6 l7 l8 l9 l10 l11 HSY HZ19 HV19 HX19 HB19 HB20 HL19
                 obtain ⟨m0,m1,mf⟩:=b2c (BlkAt.keep KM16.out (below_more HB1618.out HB18.out))
                 obtain ⟨pcur,hpb,hpc⟩:=(own_blk HRO4.out).2.2
                 have HPB20:=Lib.hid (BlkAt.keep hpb HB18.out)
                 have HPC:=Lib.hid hpc
                 have HRN:=Lib.hid (map_names HMH.out)
                 have HKM20:=Lib.hid (BlkAt.keep KM16.out (below_more HB1618.out HB18.out))
                 have HB1720:Hid (Below w17.heap.size w17 w20):=below_more HB1718.out HB18.out
                 have BW20:Hid (Below w.heap.size w w20):=below_more B10.out HL20.out
                 have hn18:n1≤8:=by have:=(mayM_parts HMB.out).2.1;rw [HN1.out] at this;exact this
                 clear hpb hpc
                 go_wp2_with fail
                 go_loopw [27,28] (fun hv i wr=>∃ (j:Nat) (hb:Bool),j≤n1∧i=.int .i64 j∧hv=.bool hb∧Hid (hb=hereL s (M.repos.take j))∧Hid (Below w20.heap.size w20 wr)) (fun _ i _=>n1 - (intOf i).toNat)
                 case atStart=>exact ⟨0,false,by omega,rfl,rfl,rfl,Below.refl _ _⟩
                 case round =>
                  obtain ⟨j,hb,hj,rfl,rfl,HHB,HBR⟩:=hrel
                  obtain ⟨m0,m1,mf⟩:=b2c (BlkAt.keep HKM20.out HBR.out)
                  by_cases hjn:j<n1
                  ·obtain ⟨r,hr⟩:∃ x,M.repos[j]?=some x:=⟨_,List.getElem?_eq_getElem (by rw [HN1.out];exact hjn)⟩
                   obtain ⟨xb',xo',rfl,t0,-⟩:=HRN.out j r hr
                   have HHS:=Lib.hid (hereL_step (s:=s) hr)
                   obtain ⟨nm,ru⟩:=r
                   have t0:=cell_keep (below_more BW20.out HBR.out) t0
                   simp only at t0
                   have i0':(0:Int)≤(j:Int):=by omega
                   have i1':(j:Int)<(n1:Int):=by omega
                   clear hr
                   cases hb with
                   | true =>
                     have hh:Hid (true=hereL s (M.repos.take (j+1))):=by show _=_;rw [HHS.out,← HHB.out];rfl
                     go_wp2_with fail
                     exact ⟨⟨j+1,true,by omega,by go_num,rfl,hh,HBR⟩,by simp [intOf];omega⟩
                   | false =>
                     by_cases e:nm=s
                     ·have hh:Hid (true=hereL s (M.repos.take (j+1))):=by show _=_;rw [HHS.out,decide_eq_true e,Bool.or_true]
                      have e1:(nm.toList == s.toList)=true:=by rw [e];simp
                      subst e
                      go_wp2_with fail
                      exact ⟨⟨j+1,true,by omega,by go_num,by first | rfl | simp,hh,HBR⟩,by simp [intOf];omega⟩
                     ·have hh:Hid (false=hereL s (M.repos.take (j+1))):=by show _=_;rw [HHS.out,← HHB.out,decide_eq_false e];rfl
                      have e1:(nm.toList == s.toList)=false:=beq_eq_false_iff_ne.2 (fun h=>e (bytesX_eq ((toList_data nm).symm.trans (h.trans (toList_data s)))))
                      go_wp2_with fail
                      exact ⟨⟨j+1,false,by omega,by go_num,by first | rfl | simp [e,e1],hh,HBR⟩,by simp [intOf];omega⟩
                  ·obtain rfl:j=n1:=by omega
                   have hhb:Hid (hb=hereL s M.repos):=by show _=_;rw [HHB.out,List.take_of_length_le (by rw [HN1.out];exact Nat.le_refl _)]
                   have i1':¬ (j:Int)<(j:Int):=by omega
                   have hwq:Below wr.heap.size wr (wr.alloc (.cells #[.string s] 9)):=bel_alloc (Below.refl _ _) _
                   obtain ⟨wq,hwq2⟩:∃ y,y=wr.alloc (.cells #[.string s] 9):=⟨_,rfl⟩
                   rw [← hwq2] at hwq
                   have hsq:wq.heap.size=wr.heap.size+1:=by rw [hwq2,size_al]
                   have HTO:=Lib.hid (textsOf_any [s] (.slice (some ⟨wr.heap.size,0,none⟩) 1 1) wq (strs_one (by rw [hwq2,cell_al_eq _ _ _ _ _ rfl];rfl) HSM.out) (by simp))
                   have HWB:=Lib.hid (below_more HBR.out hwq)
                   have HWE:=Lib.hid hwq2
                   have HSB:=Lib.hid hsq
                   have HBX:=Lib.hid hwq
                   clear hwq hwq2 hsq HHB
                   go_wp2_with fail
                   rw [← HWE.out]
                   refine HTO.out.mono ?_
                   rintro e w21 ⟨⟨tk,tn,tt,ta,tl,tc,tb,tm,te⟩,rfl,hb21,hv21⟩
                   simp only [VC.val]
                   have hpgb:pg<wq.heap.size:=by have:=HPL.out;have:=HB18.out.size;have:=HWB.out.size;omega
                   have HB1721:Hid (Below w17.heap.size w17 w21):=below_more (below_more HB1720.out HWB.out) hb21
                   have HPB21:=Lib.hid (BlkAt.keep HPB20.out (below_more HWB.out hb21))
                   have hp7:=row_cells HPB21.out HPC.out 7 (.int .u8 p2.k) rfl
                   have hp8:=row_cells HPB21.out HPC.out 8 (.int .i64 p2.n) rfl
                   have hp9:=row_cells HPB21.out HPC.out 9 (.string p2.t) rfl
                   have hp10:=row_cells HPB21.out HPC.out 10 (.slice p2.a p2.l p2.c) rfl
                   have hp11:=row_cells HPB21.out HPC.out 11 (.slice p2.b p2.m p2.e) rfl
                   have hpf:∀ i,w21.frozen? ⟨pg,i,none⟩=false:=HPB21.out.free
                   obtain ⟨cur2,hpb22,hpc22⟩:=row_put HPB21.out HPC.out 7 8 9 10 11 (.int .u8 tk) (.int .i64 tn) (.string tt) (.slice ta tl tc) (.slice tb tm te)
                   have HB1722:=Lib.hid (bput5 HB1721.out HPG.out 7 8 9 10 11 (.int .u8 tk) (.int .i64 tn) (.string tt) (.slice ta tl tc) (.slice tb tm te))
                   have HV22:=Lib.hid (show NewV wq.heap.size (((((w21.setCell ⟨pg,7,none⟩ (.int .u8 tk)).setCell ⟨pg,8,none⟩ (.int .i64 tn)).setCell ⟨pg,9,none⟩ (.string tt)).setCell ⟨pg,10,none⟩ (.slice ta tl tc)).setCell ⟨pg,11,none⟩ (.slice tb tm te)) (textsJ [s]) (VC.val ⟨tk,tn,tt,ta,tl,tc,tb,tm,te⟩) from ValAt.imp (hid_imp fun k hk hP=>⟨hP,heap_put5 _ _ _ _ _ _ _ _ _ _ _ _ _ (by have:=offB_none.1 hP;omega)⟩) hv21)
                   have HPB22:=Lib.hid hpb22
                   have HPC22:=Lib.hid hpc22
                   have HPGB:=Lib.hid hpgb
                   clear hb21 hv21 HTO hpb22 hpc22 hpgb m0 m1 mf HWE
                   go_wp2_with fail
                   clear hp7 hp8 hp9 hp10 hp11 hpf
                   generalize ((((w21.setCell ⟨pg,7,none⟩ (.int .u8 tk)).setCell ⟨pg,8,none⟩ (.int .i64 tn)).setCell ⟨pg,9,none⟩ (.string tt)).setCell ⟨pg,10,none⟩ (.slice ta tl tc)).setCell ⟨pg,11,none⟩ (.slice tb tm te)=w22 at HB1722 HV22 HPB22 ⊢
                   refine (numOf_any 1 w22).mono ?_
                   rintro e w23 ⟨rfl,hb23⟩
                   have HB1723:Hid (Below w17.heap.size w17 w23):=below_more HB1722.out hb23
                   have HPB23:=Lib.hid (BlkAt.keep HPB22.out hb23)
                   have hp19:=row_cells HPB23.out HPC22.out 19 (.int .u8 p4.k) rfl
                   have hp20:=row_cells HPB23.out HPC22.out 20 (.int .i64 p4.n) rfl
                   have hp21:=row_cells HPB23.out HPC22.out 21 (.string p4.t) rfl
                   have hp22:=row_cells HPB23.out HPC22.out 22 (.slice p4.a p4.l p4.c) rfl
                   have hp23:=row_cells HPB23.out HPC22.out 23 (.slice p4.b p4.m p4.e) rfl
                   have hpf:∀ i,w23.frozen? ⟨pg,i,none⟩=false:=HPB23.out.free
                   obtain ⟨cur3,hpb24,hpc24⟩:=row_put HPB23.out HPC22.out 19 20 21 22 23 (.int .u8 2) (.int .i64 1) (.string ⟨#[]⟩) (.slice none 0 0) (.slice none 0 0)
                   rw [xs4_odd X s] at hpc24
                   have HB1724:=Lib.hid (bput5 HB1723.out HPG.out 19 20 21 22 23 (.int .u8 2) (.int .i64 1) (.string ⟨#[]⟩) (.slice none 0 0) (.slice none 0 0))
                   have HV24:=Lib.hid (show ValAt (pureW (((((w23.setCell ⟨pg,19,none⟩ (.int .u8 2)).setCell ⟨pg,20,none⟩ (.int .i64 1)).setCell ⟨pg,21,none⟩ (.string ⟨#[]⟩)).setCell ⟨pg,22,none⟩ (.slice none 0 0)).setCell ⟨pg,23,none⟩ (.slice none 0 0))) (textsJ [s]) (VC.val ⟨tk,tn,tt,ta,tl,tc,tb,tm,te⟩) from ValAt.imp (hid_imp fun k hk hP=>⟨rfl,heap_put5 _ _ _ _ _ _ _ _ _ _ _ _ _ (by have:=offB_none.1 hP;have:=HPGB.out;omega)⟩) (HV22.out.keepB hb23))
                   have HPB24:=Lib.hid hpb24
                   have HPC24:=Lib.hid hpc24
                   clear hb23 hpb24 hpc24
                   go_wp2_with fail
                   clear hp19 hp20 hp21 hp22 hp23 hpf
                   generalize ((((w23.setCell ⟨pg,19,none⟩ (.int .u8 2)).setCell ⟨pg,20,none⟩ (.int .i64 1)).setCell ⟨pg,21,none⟩ (.string ⟨#[]⟩)).setCell ⟨pg,22,none⟩ (.slice none 0 0)).setCell ⟨pg,23,none⟩ (.slice none 0 0)=w24 at HB1724 HV24 HPB24 ⊢
                   have HS1:Hid (s.size≤1000):=by show _≤_;omega
                   refine (objectOf_xs (xs4 (otherM X s) p1 ⟨tk,tn,tt,ta,tl,tc,tb,tm,te⟩ p3 ⟨2,1,⟨#[]⟩,none,0,0,none,0,0⟩) 4 pg pc4 w24 rfl (by decide) (by decide) (xs4_asc _ _ _ _ _) (odd_at HV4.out (pure_keep (below_more HL17.out HB1724.out)) HV24.out) (fun y hy=>Nat.le_trans ((other_wt HMB.out HXW.out HS1.out).1 _ _ _ _ y hy) (by decide)) (row_cells HPB24.out HPC24.out)).mono ?_
                   rintro e w25 ⟨⟨zk,zn,zt,za,zl,zc,zb,zm,ze⟩,rfl,hb25,hv25⟩
                   simp only [VC.val]
                   obtain ⟨w26,hw26⟩:∃ y,y=w25.alloc (.cells #[.int .u8 zk,.int .i64 zn,.string zt,.slice za zl zc,.slice zb zm ze] 29):=⟨_,rfl⟩
                   have hb26:Below w25.heap.size w25 w26:=by rw [hw26];exact bel_alloc (Below.refl _ _) _
                   have HZ26:Hid (BlkAt w26 w25.heap.size 29 #[.int .u8 zk,.int .i64 zn,.string zt,.slice za zl zc,.slice zb zm ze]):=by rw [hw26];exact blkAt_new w25 _ _
                   have HV26:Hid (ValAt (pureW w26) (mapgJ (otherM X s)) (VC.val ⟨zk,zn,zt,za,zl,zc,zb,zm,ze⟩)):=valOf_pure hv25 hb26
                   have HB1726:Hid (Below w17.heap.size w17 w26):=below_more (below_more HB1724.out hb25) hb26
                   have HL26:Hid (Below w10.heap.size w10 w26):=below_more HL17.out HB1726.out
                   have BW26:Hid (Below w.heap.size w w26):=below_more B10.out HL26.out
                   have HW26:=Lib.hid hw26
                   obtain ⟨z0,z1,z2,z3,z4,zf⟩:=b5t HZ26.out
                   obtain ⟨x0,x1,x2,x3,x4,xf⟩:=b5t (BlkAt.keep HX17.out HB1726.out)
                   have l6:=HLC.out _ HL26.out 6 (.string tRepos) rfl
                   have l7:=HLC.out _ HL26.out 7 (.int .u8 qk) rfl
                   have l8:=HLC.out _ HL26.out 8 (.int .i64 qn) rfl
                   have l9:=HLC.out _ HL26.out 9 (.string qt) rfl
                   have l10:=HLC.out _ HL26.out 10 (.slice qa ql qc) rfl
                   have l11:=HLC.out _ HL26.out 11 (.slice qb qm qe) rfl
                   have HSY:Hid (∀ (wt0:Int),writ s=true→errQ (chartV (sayJ ((M.maps.take q).map mapgJ++[mapgJ (otherM X s)]) M.repos))=wt0→∀ Y,Below w26.heap.size w26 Y→Calls Tryz.prog 13 #[.agg #[.int .u8 zk,.int .i64 zn,.string zt,.slice za zl zc,.slice zb zm ze],.slice (some ⟨ib,io,none⟩) q pe,.agg #[.string tRepos,.int .u8 qk,.int .i64 qn,.string qt,.slice qa ql qc,.slice qb qm qe],.int .i64 wt0] Y fun e w'=>e=.returned (.bool true)∧Below Y.heap.size Y w'):=fun wt0 hwr ha Y hY =>
                    says_use HMB.out HTK.out HPQ.out hq16' (other_good HMB.out HXW.out hwr) ⟨zk,zn,zt,za,zl,zc,zb,zm,ze⟩ ⟨qk,qn,qt,qa,ql,qc,qb,qm,qe⟩ ib io pe wt0 Y ((HIT.out pe HQE.out).imp (pure_keep (below_more HL26.out hY))) (HV26.out.imp (pure_keep hY)) (HVQ.out.imp (pure_keep (below_more HL26.out hY))) ha
                   clear hb25 hv25 hw26 hb26
                   cases hb with
                   | true =>
                     have hmem:s ∈ namesR M.repos:=hereL_iff.1 hhb.out.symm
                     have HS2:=Lib.hid (HSY.out 0 (by
                      obtain ⟨r,hr,rfl⟩:=names_mem hmem
                      exact (role_writ ((mayM_parts HMB.out).2.2.2.2.1 r hr).1).1) (by
                      rw [say_ok HMB.out HTK.out (by rw [List.length_take,HN2.out];omega) (other_ok HXW.out hmem)]
                      rfl))
                     clear hmem HSY
                     go_wp2_with fail
                     rw [← HW26.out]
                     refine wp_region_any (by kernel_rfl) ?_
                     refine wpAny_puts [(0,some 201),(1,some 202),(2,some 203),(3,some 204),(4,some 205),(5,some 206),(6,some 207),(7,some 208),(8,some 209)] 9 [] (by kernel_rfl) (by kernel_rfl) (of_decide_eq_true (by kernel_rfl)) (fun w'=>Below w26.heap.size w26 w') (lit14 (.agg #[.int .u8 zk,.int .i64 zn,.string zt,.slice za zl zc,.slice zb zm ze]) (.pointer (some ⟨w16.heap.size,4,none⟩)) (.slice (some ⟨ib,io,none⟩) (q+1) pe) (.int .i64 q) (.slice (some ⟨ib,io,none⟩) q pe) (.slice (some ⟨mg,0,none⟩) 2 mc) (.pointer (some ⟨mg,6,none⟩)) (.agg #[.string tRepos,.int .u8 qk,.int .i64 qn,.string qt,.slice qa ql qc,.slice qb qm qe]) (.bool true) (undef) (undef) (undef) (undef) (undef)) (fun _ _ _ _ h _=>h) (bel_drew (Below.refl _ _)) ?_ ?_
                     ·
                      refine PutSteps.at rfl (fun vs Y hG hdep K hK=>?_) ?_
                      ·have g0:=cell_keep hG z0
                       have g1:=cell_keep hG z1
                       have g2:=cell_keep hG z2
                       have g3:=cell_keep hG z3
                       have g4:=cell_keep hG z4
                       simp only [putsOf,pqA,pqB,Act.put,pqC,pqD,pqE] at hK ⊢
                       go_simp
                       exact hK.out (.agg #[.int .u8 zk,.int .i64 zn,.string zt,.slice za zl zc,.slice zb zm ze]) _ _ rfl hG (Below.refl _ _) rfl
                      refine PutSteps.at rfl (fun vs Y hG hdep K hK=>?_) ?_
                      ·simp only [putsOf,pqA,pqB,Act.put,pqC,pqD,pqE] at hK ⊢
                       go_simp
                       exact hK.out (.pointer (some ⟨w16.heap.size,4,none⟩)) _ _ rfl hG (Below.refl _ _) rfl
                      refine PutSteps.at rfl (fun vs Y hG hdep K hK=>?_) ?_
                      ·have e1:vs 1=.pointer (some ⟨w16.heap.size,4,none⟩):=hdep 1 rfl (by kernel_rfl)
                       have g4:=cell_keep hG x4
                       simp only [putsOf,pqA,pqB,Act.put,pqC,pqD,pqE] at hK ⊢
                       rw [e1] at hK ⊢
                       go_simp
                       exact hK.out (.slice (some ⟨ib,io,none⟩) (q+1) pe) _ _ rfl hG (Below.refl _ _) rfl
                      refine PutSteps.at rfl (fun vs Y hG hdep K hK=>?_) ?_
                      ·simp only [putsOf,pqA,pqB,Act.put,pqC,pqD,pqE] at hK ⊢
                       go_simp
                       exact hK.out (.int .i64 q) _ _ rfl hG (Below.refl _ _) rfl
                      refine PutSteps.at rfl (fun vs Y hG hdep K hK=>?_) ?_
                      ·have e2:vs 2=.slice (some ⟨ib,io,none⟩) (q+1) pe:=hdep 2 rfl (by kernel_rfl)
                       have e3:vs 3=.int .i64 q:=hdep 3 rfl (by kernel_rfl)
                       simp only [putsOf,pqA,pqB,Act.put,pqC,pqD,pqE] at hK ⊢
                       rw [e2,e3] at hK ⊢
                       go_simp
                       exact hK.out (.slice (some ⟨ib,io,none⟩) q pe) _ _ rfl hG (Below.refl _ _) rfl
                      refine PutSteps.at rfl (fun vs Y hG hdep K hK=>?_) ?_
                      ·simp only [putsOf,pqA,pqB,Act.put,pqC,pqD,pqE] at hK ⊢
                       go_simp
                       exact hK.out (.slice (some ⟨mg,0,none⟩) 2 mc) _ _ rfl hG (Below.refl _ _) rfl
                      refine PutSteps.at rfl (fun vs Y hG hdep K hK=>?_) ?_
                      ·have e5:vs 5=.slice (some ⟨mg,0,none⟩) 2 mc:=hdep 5 rfl (by kernel_rfl)
                       simp only [putsOf,pqA,pqB,Act.put,pqC,pqD,pqE] at hK ⊢
                       rw [e5] at hK ⊢
                       go_simp
                       exact hK.out (.pointer (some ⟨mg,6,none⟩)) _ _ rfl hG (Below.refl _ _) rfl
                      refine PutSteps.at rfl (fun vs Y hG hdep K hK=>?_) ?_
                      ·have e6:vs 6=.pointer (some ⟨mg,6,none⟩):=hdep 6 rfl (by kernel_rfl)
                       have g6:=cell_keep hG l6
                       have g7:=cell_keep hG l7
                       have g8:=cell_keep hG l8
                       have g9:=cell_keep hG l9
                       have g10:=cell_keep hG l10
                       have g11:=cell_keep hG l11
                       simp only [putsOf,pqA,pqB,Act.put,pqC,pqD,pqE] at hK ⊢
                       rw [e6] at hK ⊢
                       go_simp
                       exact hK.out (.agg #[.string tRepos,.int .u8 qk,.int .i64 qn,.string qt,.slice qa ql qc,.slice qb qm qe]) _ _ rfl hG (Below.refl _ _) rfl
                      refine PutSteps.at rfl (fun vs Y hG hdep K hK=>?_) PutSteps.nil
                      ·have e0:vs 0=.agg #[.int .u8 zk,.int .i64 zn,.string zt,.slice za zl zc,.slice zb zm ze]:=hdep 0 rfl (by kernel_rfl)
                       have e4:vs 4=.slice (some ⟨ib,io,none⟩) q pe:=hdep 4 rfl (by kernel_rfl)
                       have e7:vs 7=.agg #[.string tRepos,.int .u8 qk,.int .i64 qn,.string qt,.slice qa ql qc,.slice qb qm qe]:=hdep 7 rfl (by kernel_rfl)
                       simp only [putsOf,pqA,pqB,Act.put,pqC,pqD,pqE] at hK ⊢
                       rw [e0,e4,e7] at hK ⊢
                       go_simp
                       refine (HS2.out Y hG).mono ?_
                       rintro e w' ⟨rfl,hbz⟩
                       exact hK.out (.bool true) _ _ rfl (below_more hG hbz) hbz rfl
                     ·intro vs Y hG hall
                      have e8:vs 8=.bool true:=hall 8 rfl
                      simp only [putsOf,pqA,pqB,Act.put,pqC,pqD,pqE]
                      simp only [List.filterMap_cons,List.filterMap_nil,nthO]
                      rw [e8]
                      refine wpList_plain rfl fun K hK=>?_
                      go_simp
                      refine hK _ _ ?_
                      refine wpList_nil ?_
                      go_wp2_with fail
                      go_ret
                      exact ⟨rfl,below_more BW26.out hG⟩
                   | false =>
                     have hnm:s ∉ namesR M.repos:=fun h=>by
                      have h1:=hereL_iff.2 h
                      rw [← hhb.out] at h1
                      cases h1
                     obtain ⟨mo,hmo⟩:∃ b,mayB (mapgJ (otherM X s))=b:=⟨_,rfl⟩
                     have HMO:=Lib.hid hmo
                     have HMY:Hid (∀ Y,Below w26.heap.size w26 Y→Calls Tryz.prog 12 #[.agg #[.int .u8 zk,.int .i64 zn,.string zt,.slice za zl zc,.slice zb zm ze]] Y fun e w'=>e=.returned (.bool mo)∧Below Y.heap.size Y w'):=fun Y hY =>
                      refMay_any (mapgJ (otherM X s)) (VC.val ⟨zk,zn,zt,za,zl,zc,zb,zm,ze⟩) Y (HV26.out.imp fun p u hu=>cell_keep hY (pure_cell hu).2) (other_wt HMB.out HXW.out HS1.out).2 mo HMO
                     cases mo with
                     | false =>
                       clear HSY hmo hnm
                       go_wp2_with fail
                       rw [← HW26.out]
                       refine wp_region_any (by kernel_rfl) ?_
                       refine wpAny_puts [(0,some 210),(1,some 211),(2,some 212),(3,some 213),(4,some 214),(5,some 215),(6,some 216),(7,some 217),(8,some 218),(9,some 219),(10,some 220),(11,some 221),(12,some 222),(13,some 223)] 14 [] (by kernel_rfl) (by kernel_rfl) (of_decide_eq_true (by kernel_rfl)) (fun w'=>Below w26.heap.size w26 w') (lit14 (.agg #[.int .u8 zk,.int .i64 zn,.string zt,.slice za zl zc,.slice zb zm ze]) (.bool false) (.bool true) (.bool true) (undef) (undef) (undef) (undef) (undef) (undef) (undef) (undef) (undef) (.bool true)) (fun _ _ _ _ h _=>h) (bel_drew (Below.refl _ _)) ?_ ?_
                       ·
                        refine PutSteps.at rfl (fun vs Y hG hdep K hK=>?_) ?_
                        ·have g0:=cell_keep hG z0
                         have g1:=cell_keep hG z1
                         have g2:=cell_keep hG z2
                         have g3:=cell_keep hG z3
                         have g4:=cell_keep hG z4
                         simp only [putsOf,pqA,pqB,Act.put,pqC,pqD,pqE] at hK ⊢
                         go_simp
                         exact hK.out (.agg #[.int .u8 zk,.int .i64 zn,.string zt,.slice za zl zc,.slice zb zm ze]) _ _ rfl hG (Below.refl _ _) rfl
                        refine PutSteps.at rfl (fun vs Y hG hdep K hK=>?_) ?_
                        ·have e0:vs 0=.agg #[.int .u8 zk,.int .i64 zn,.string zt,.slice za zl zc,.slice zb zm ze]:=hdep 0 rfl (by kernel_rfl)
                         simp only [putsOf,pqA,pqB,Act.put,pqC,pqD,pqE] at hK ⊢
                         rw [e0] at hK ⊢
                         go_simp
                         refine (HMY.out Y hG).mono ?_
                         rintro e w' ⟨rfl,hbz⟩
                         exact hK.out (.bool false) _ _ rfl (below_more hG hbz) hbz rfl
                        refine PutSteps.at rfl (fun vs Y hG hdep K hK=>?_) ?_
                        ·have e1:vs 1=.bool false:=hdep 1 rfl (by kernel_rfl)
                         simp only [putsOf,pqA,pqB,Act.put,pqC,pqD,pqE] at hK ⊢
                         rw [e1] at hK ⊢
                         go_simp
                         exact hK.out (.bool true) _ _ rfl hG (Below.refl _ _) rfl
                        refine PutSteps.at rfl (fun vs Y hG hdep K hK=>?_) ?_
                        ·have e2:vs 2=.bool true:=hdep 2 rfl (by kernel_rfl)
                         simp only [putsOf,pqA,pqB,Act.put,pqC,pqD,pqE] at hK ⊢
                         rw [e2] at hK ⊢
                         go_simp
                         exact hK.out (.bool true) _ _ rfl hG (Below.refl _ _) rfl
                        refine PutSteps.at rfl (fun vs Y hG hdep K hK=>?_) ?_
                        ·have e3:vs 3=.bool true:=hdep 3 rfl (by kernel_rfl)
                         simp only [putsOf,pqA,pqB,Act.put,pqC,pqD,pqE] at hK ⊢
                         rw [e3] at hK ⊢
                         go_simp
                         exact hK.out (undef) _ _ rfl hG (Below.refl _ _) rfl
                        refine PutSteps.at rfl (fun vs Y hG hdep K hK=>?_) ?_
                        ·have e3:vs 3=.bool true:=hdep 3 rfl (by kernel_rfl)
                         simp only [putsOf,pqA,pqB,Act.put,pqC,pqD,pqE] at hK ⊢
                         rw [e3] at hK ⊢
                         go_simp
                         exact hK.out (undef) _ _ rfl hG (Below.refl _ _) rfl
                        refine PutSteps.at rfl (fun vs Y hG hdep K hK=>?_) ?_
                        ·have e3:vs 3=.bool true:=hdep 3 rfl (by kernel_rfl)
                         simp only [putsOf,pqA,pqB,Act.put,pqC,pqD,pqE] at hK ⊢
                         rw [e3] at hK ⊢
                         go_simp
                         exact hK.out (undef) _ _ rfl hG (Below.refl _ _) rfl
                        refine PutSteps.at rfl (fun vs Y hG hdep K hK=>?_) ?_
                        ·have e3:vs 3=.bool true:=hdep 3 rfl (by kernel_rfl)
                         simp only [putsOf,pqA,pqB,Act.put,pqC,pqD,pqE] at hK ⊢
                         rw [e3] at hK ⊢
                         go_simp
                         exact hK.out (undef) _ _ rfl hG (Below.refl _ _) rfl
                        refine PutSteps.at rfl (fun vs Y hG hdep K hK=>?_) ?_
                        ·have e3:vs 3=.bool true:=hdep 3 rfl (by kernel_rfl)
                         simp only [putsOf,pqA,pqB,Act.put,pqC,pqD,pqE] at hK ⊢
                         rw [e3] at hK ⊢
                         go_simp
                         exact hK.out (undef) _ _ rfl hG (Below.refl _ _) rfl
                        refine PutSteps.at rfl (fun vs Y hG hdep K hK=>?_) ?_
                        ·have e3:vs 3=.bool true:=hdep 3 rfl (by kernel_rfl)
                         simp only [putsOf,pqA,pqB,Act.put,pqC,pqD,pqE] at hK ⊢
                         rw [e3] at hK ⊢
                         go_simp
                         exact hK.out (undef) _ _ rfl hG (Below.refl _ _) rfl
                        refine PutSteps.at rfl (fun vs Y hG hdep K hK=>?_) ?_
                        ·have e3:vs 3=.bool true:=hdep 3 rfl (by kernel_rfl)
                         simp only [putsOf,pqA,pqB,Act.put,pqC,pqD,pqE] at hK ⊢
                         rw [e3] at hK ⊢
                         go_simp
                         exact hK.out (undef) _ _ rfl hG (Below.refl _ _) rfl
                        refine PutSteps.at rfl (fun vs Y hG hdep K hK=>?_) ?_
                        ·have e3:vs 3=.bool true:=hdep 3 rfl (by kernel_rfl)
                         simp only [putsOf,pqA,pqB,Act.put,pqC,pqD,pqE] at hK ⊢
                         rw [e3] at hK ⊢
                         go_simp
                         exact hK.out (undef) _ _ rfl hG (Below.refl _ _) rfl
                        refine PutSteps.at rfl (fun vs Y hG hdep K hK=>?_) ?_
                        ·have e3:vs 3=.bool true:=hdep 3 rfl (by kernel_rfl)
                         simp only [putsOf,pqA,pqB,Act.put,pqC,pqD,pqE] at hK ⊢
                         rw [e3] at hK ⊢
                         go_simp
                         exact hK.out (undef) _ _ rfl hG (Below.refl _ _) rfl
                        refine PutSteps.at rfl (fun vs Y hG hdep K hK=>?_) PutSteps.nil
                        ·have e3:vs 3=.bool true:=hdep 3 rfl (by kernel_rfl)
                         simp only [putsOf,pqA,pqB,Act.put,pqC,pqD,pqE] at hK ⊢
                         rw [e3] at hK ⊢
                         go_simp
                         exact hK.out (.bool true) _ _ rfl hG (Below.refl _ _) rfl
                       ·intro vs Y hG hall
                        have e13:vs 13=.bool true:=hall 13 rfl
                        simp only [putsOf,pqA,pqB,Act.put,pqC,pqD,pqE]
                        simp only [List.filterMap_cons,List.filterMap_nil,nthO]
                        rw [e13]
                        refine wpList_plain rfl fun K hK=>?_
                        go_simp
                        refine hK _ _ ?_
                        refine wpList_nil ?_
                        go_wp2_with fail
                        go_ret
                        exact ⟨rfl,below_more BW26.out hG⟩
                     | true =>
                       have HS2:=Lib.hid (HSY.out 6 (other_writ hmo) (by
                        rw [say_bad HMB.out HTK.out (by rw [List.length_take,HN2.out];omega) (other_bad HXW.out (by rw [namesR,List.length_map];exact (mayM_parts HMB.out).2.1) hnm) (by decide) (other_good HMB.out HXW.out (other_writ hmo))]
                        rfl))
                       clear HSY hmo hnm
                       go_wp2_with fail
                       rw [← HW26.out]
                       refine wp_region_any (by kernel_rfl) ?_
                       refine wpAny_puts [(0,some 210),(1,some 211),(2,some 212),(3,some 213),(4,some 214),(5,some 215),(6,some 216),(7,some 217),(8,some 218),(9,some 219),(10,some 220),(11,some 221),(12,some 222),(13,some 223)] 14 [] (by kernel_rfl) (by kernel_rfl) (of_decide_eq_true (by kernel_rfl)) (fun w'=>Below w26.heap.size w26 w') (lit14 (.agg #[.int .u8 zk,.int .i64 zn,.string zt,.slice za zl zc,.slice zb zm ze]) (.bool true) (.bool false) (.bool false) (.agg #[.int .u8 zk,.int .i64 zn,.string zt,.slice za zl zc,.slice zb zm ze]) (.pointer (some ⟨w16.heap.size,4,none⟩)) (.slice (some ⟨ib,io,none⟩) (q+1) pe) (.int .i64 q) (.slice (some ⟨ib,io,none⟩) q pe) (.slice (some ⟨mg,0,none⟩) 2 mc) (.pointer (some ⟨mg,6,none⟩)) (.agg #[.string tRepos,.int .u8 qk,.int .i64 qn,.string qt,.slice qa ql qc,.slice qb qm qe]) (.bool true) (.bool true)) (fun _ _ _ _ h _=>h) (bel_drew (Below.refl _ _)) ?_ ?_
                       ·
                        refine PutSteps.at rfl (fun vs Y hG hdep K hK=>?_) ?_
                        ·have g0:=cell_keep hG z0
                         have g1:=cell_keep hG z1
                         have g2:=cell_keep hG z2
                         have g3:=cell_keep hG z3
                         have g4:=cell_keep hG z4
                         simp only [putsOf,pqA,pqB,Act.put,pqC,pqD,pqE] at hK ⊢
                         go_simp
                         exact hK.out (.agg #[.int .u8 zk,.int .i64 zn,.string zt,.slice za zl zc,.slice zb zm ze]) _ _ rfl hG (Below.refl _ _) rfl
                        refine PutSteps.at rfl (fun vs Y hG hdep K hK=>?_) ?_
                        ·have e0:vs 0=.agg #[.int .u8 zk,.int .i64 zn,.string zt,.slice za zl zc,.slice zb zm ze]:=hdep 0 rfl (by kernel_rfl)
                         simp only [putsOf,pqA,pqB,Act.put,pqC,pqD,pqE] at hK ⊢
                         rw [e0] at hK ⊢
                         go_simp
                         refine (HMY.out Y hG).mono ?_
                         rintro e w' ⟨rfl,hbz⟩
                         exact hK.out (.bool true) _ _ rfl (below_more hG hbz) hbz rfl
                        refine PutSteps.at rfl (fun vs Y hG hdep K hK=>?_) ?_
                        ·have e1:vs 1=.bool true:=hdep 1 rfl (by kernel_rfl)
                         simp only [putsOf,pqA,pqB,Act.put,pqC,pqD,pqE] at hK ⊢
                         rw [e1] at hK ⊢
                         go_simp
                         exact hK.out (.bool false) _ _ rfl hG (Below.refl _ _) rfl
                        refine PutSteps.at rfl (fun vs Y hG hdep K hK=>?_) ?_
                        ·have e2:vs 2=.bool false:=hdep 2 rfl (by kernel_rfl)
                         simp only [putsOf,pqA,pqB,Act.put,pqC,pqD,pqE] at hK ⊢
                         rw [e2] at hK ⊢
                         go_simp
                         exact hK.out (.bool false) _ _ rfl hG (Below.refl _ _) rfl
                        refine PutSteps.at rfl (fun vs Y hG hdep K hK=>?_) ?_
                        ·have e3:vs 3=.bool false:=hdep 3 rfl (by kernel_rfl)
                         have g0:=cell_keep hG z0
                         have g1:=cell_keep hG z1
                         have g2:=cell_keep hG z2
                         have g3:=cell_keep hG z3
                         have g4:=cell_keep hG z4
                         simp only [putsOf,pqA,pqB,Act.put,pqC,pqD,pqE] at hK ⊢
                         rw [e3] at hK ⊢
                         go_simp
                         exact hK.out (.agg #[.int .u8 zk,.int .i64 zn,.string zt,.slice za zl zc,.slice zb zm ze]) _ _ rfl hG (Below.refl _ _) rfl
                        refine PutSteps.at rfl (fun vs Y hG hdep K hK=>?_) ?_
                        ·have e3:vs 3=.bool false:=hdep 3 rfl (by kernel_rfl)
                         simp only [putsOf,pqA,pqB,Act.put,pqC,pqD,pqE] at hK ⊢
                         rw [e3] at hK ⊢
                         go_simp
                         exact hK.out (.pointer (some ⟨w16.heap.size,4,none⟩)) _ _ rfl hG (Below.refl _ _) rfl
                        refine PutSteps.at rfl (fun vs Y hG hdep K hK=>?_) ?_
                        ·have e3:vs 3=.bool false:=hdep 3 rfl (by kernel_rfl)
                         have e5:vs 5=.pointer (some ⟨w16.heap.size,4,none⟩):=hdep 5 rfl (by kernel_rfl)
                         have g4:=cell_keep hG x4
                         simp only [putsOf,pqA,pqB,Act.put,pqC,pqD,pqE] at hK ⊢
                         rw [e3,e5] at hK ⊢
                         go_simp
                         exact hK.out (.slice (some ⟨ib,io,none⟩) (q+1) pe) _ _ rfl hG (Below.refl _ _) rfl
                        refine PutSteps.at rfl (fun vs Y hG hdep K hK=>?_) ?_
                        ·have e3:vs 3=.bool false:=hdep 3 rfl (by kernel_rfl)
                         simp only [putsOf,pqA,pqB,Act.put,pqC,pqD,pqE] at hK ⊢
                         rw [e3] at hK ⊢
                         go_simp
                         exact hK.out (.int .i64 q) _ _ rfl hG (Below.refl _ _) rfl
                        refine PutSteps.at rfl (fun vs Y hG hdep K hK=>?_) ?_
                        ·have e3:vs 3=.bool false:=hdep 3 rfl (by kernel_rfl)
                         have e6:vs 6=.slice (some ⟨ib,io,none⟩) (q+1) pe:=hdep 6 rfl (by kernel_rfl)
                         have e7:vs 7=.int .i64 q:=hdep 7 rfl (by kernel_rfl)
                         simp only [putsOf,pqA,pqB,Act.put,pqC,pqD,pqE] at hK ⊢
                         rw [e3,e6,e7] at hK ⊢
                         go_simp
                         exact hK.out (.slice (some ⟨ib,io,none⟩) q pe) _ _ rfl hG (Below.refl _ _) rfl
                        refine PutSteps.at rfl (fun vs Y hG hdep K hK=>?_) ?_
                        ·have e3:vs 3=.bool false:=hdep 3 rfl (by kernel_rfl)
                         simp only [putsOf,pqA,pqB,Act.put,pqC,pqD,pqE] at hK ⊢
                         rw [e3] at hK ⊢
                         go_simp
                         exact hK.out (.slice (some ⟨mg,0,none⟩) 2 mc) _ _ rfl hG (Below.refl _ _) rfl
                        refine PutSteps.at rfl (fun vs Y hG hdep K hK=>?_) ?_
                        ·have e3:vs 3=.bool false:=hdep 3 rfl (by kernel_rfl)
                         have e9:vs 9=.slice (some ⟨mg,0,none⟩) 2 mc:=hdep 9 rfl (by kernel_rfl)
                         simp only [putsOf,pqA,pqB,Act.put,pqC,pqD,pqE] at hK ⊢
                         rw [e3,e9] at hK ⊢
                         go_simp
                         exact hK.out (.pointer (some ⟨mg,6,none⟩)) _ _ rfl hG (Below.refl _ _) rfl
                        refine PutSteps.at rfl (fun vs Y hG hdep K hK=>?_) ?_
                        ·have e3:vs 3=.bool false:=hdep 3 rfl (by kernel_rfl)
                         have e10:vs 10=.pointer (some ⟨mg,6,none⟩):=hdep 10 rfl (by kernel_rfl)
                         have g6:=cell_keep hG l6
                         have g7:=cell_keep hG l7
                         have g8:=cell_keep hG l8
                         have g9:=cell_keep hG l9
                         have g10:=cell_keep hG l10
                         have g11:=cell_keep hG l11
                         simp only [putsOf,pqA,pqB,Act.put,pqC,pqD,pqE] at hK ⊢
                         rw [e3,e10] at hK ⊢
                         go_simp
                         exact hK.out (.agg #[.string tRepos,.int .u8 qk,.int .i64 qn,.string qt,.slice qa ql qc,.slice qb qm qe]) _ _ rfl hG (Below.refl _ _) rfl
                        refine PutSteps.at rfl (fun vs Y hG hdep K hK=>?_) ?_
                        ·have e3:vs 3=.bool false:=hdep 3 rfl (by kernel_rfl)
                         have e4:vs 4=.agg #[.int .u8 zk,.int .i64 zn,.string zt,.slice za zl zc,.slice zb zm ze]:=hdep 4 rfl (by kernel_rfl)
                         have e8:vs 8=.slice (some ⟨ib,io,none⟩) q pe:=hdep 8 rfl (by kernel_rfl)
                         have e11:vs 11=.agg #[.string tRepos,.int .u8 qk,.int .i64 qn,.string qt,.slice qa ql qc,.slice qb qm qe]:=hdep 11 rfl (by kernel_rfl)
                         simp only [putsOf,pqA,pqB,Act.put,pqC,pqD,pqE] at hK ⊢
                         rw [e3,e4,e8,e11] at hK ⊢
                         go_simp
                         refine (HS2.out Y hG).mono ?_
                         rintro e w' ⟨rfl,hbz⟩
                         exact hK.out (.bool true) _ _ rfl (below_more hG hbz) hbz rfl
                        refine PutSteps.at rfl (fun vs Y hG hdep K hK=>?_) PutSteps.nil
                        ·have e3:vs 3=.bool false:=hdep 3 rfl (by kernel_rfl)
                         have e12:vs 12=.bool true:=hdep 12 rfl (by kernel_rfl)
                         simp only [putsOf,pqA,pqB,Act.put,pqC,pqD,pqE] at hK ⊢
                         rw [e3,e12] at hK ⊢
                         go_simp
                         exact hK.out (.bool true) _ _ rfl hG (Below.refl _ _) rfl
                       ·intro vs Y hG hall
                        have e13:vs 13=.bool true:=hall 13 rfl
                        simp only [putsOf,pqA,pqB,Act.put,pqC,pqD,pqE]
                        simp only [List.filterMap_cons,List.filterMap_nil,nthO]
                        rw [e13]
                        refine wpList_plain rfl fun K hK=>?_
                        go_simp
                        refine hK _ _ ?_
                        refine wpList_nil ?_
                        go_wp2_with fail
                        go_ret
                        exact ⟨rfl,below_more BW26.out hG⟩
end
end Go.Proofs.YtchinankclckjaaGreatDoor
