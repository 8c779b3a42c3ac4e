/-
  legatelaw25.Long: how much there is in maps.
  legatelaw25.Long: the walk.
  What the laws of maps share: what For gives, what Long says.
  legatelaw25.refused: is a text refused so?
-/
import Derived.Test.YtaloajeldimpnaaGreatDoorChartS
import Derived.Test.YtaloajeldimpnaaGreatDoorChartD
import Derived.BigQuiet
import Derived.Test.YtaloajeldimpnaaGreatDoorChartAw
import Derived.Test.YtaloajeldimpnaaGreatDoorChartB2
namespace Go.Proofs.YtaloajeldimpnaaGreatDoor
section
open Go.RowKit
def reposLg:Nat → List RepoP → Nat
 | n,[] => n
 | n,r :: l => if n < 20000 then reposLg (n + 5 + min 20000 r.1.size + textsN r.2) l else n
def mapsLg:Nat → List MapgP → Nat
 | n,[] => n
 | n,x :: l => if n < 20000 then mapsLg (n + 5 + textsN x.paths + textsN x.repos) l else n
def longLg:Nat → List MapP → Nat
 | n,[] => n
 | n,M :: l => longLg (mapsLg (reposLg n M.repos) M.maps) l
theorem reposLg_step {l:List RepoP} {k n:Nat} {r:RepoP} (h:l[k]? = some r):reposLg n (l.drop k) = if n < 20000 then reposLg (n + 5 + min 20000 r.1.size + textsN r.2) (l.drop (k + 1)) else n:=by
 obtain ⟨h1,h2⟩:=List.getElem?_eq_some_iff.1 h
 rw [List.drop_eq_getElem_cons h1,h2,reposLg]
theorem mapsLg_step {l:List MapgP} {k n:Nat} {x:MapgP} (h:l[k]? = some x):mapsLg n (l.drop k) = if n < 20000 then mapsLg (n + 5 + textsN x.paths + textsN x.repos) (l.drop (k + 1)) else n:=by
 obtain ⟨h1,h2⟩:=List.getElem?_eq_some_iff.1 h
 rw [List.drop_eq_getElem_cons h1,h2,mapsLg]
theorem longLg_step {l:List MapP} {k n:Nat} {M:MapP} (h:l[k]? = some M):longLg n (l.drop k) = longLg (mapsLg (reposLg n M.repos) M.maps) (l.drop (k + 1)):=by
 obtain ⟨h1,h2⟩:=List.getElem?_eq_some_iff.1 h
 rw [List.drop_eq_getElem_cons h1,h2,longLg]
theorem textsGo_le:∀ (l:List ByteArray) (n:Nat),n ≤ 40005 → textsGo n l ≤ 40005
 | [],n,h => h
 | s :: l,n,h => by
   rw [textsGo]
   split
   ·exact textsGo_le l _ (by omega)
   ·exact h
theorem textsN_le (l:List ByteArray):textsN l ≤ 40005:=textsGo_le l 0 (by decide)
theorem reposLg_le:∀ (l:List RepoP) (n:Nat),n ≤ 200000 → reposLg n l ≤ 200000
 | [],n,h => h
 | s :: l,n,h => by
   rw [reposLg]
   split
   ·have:=textsN_le s.2
    exact reposLg_le l _ (by omega)
   ·exact h
theorem mapsLg_le:∀ (l:List MapgP) (n:Nat),n ≤ 200000 → mapsLg n l ≤ 200000
 | [],n,h => h
 | s :: l,n,h => by
   rw [mapsLg]
   split
   ·have:=textsN_le s.paths
    have:=textsN_le s.repos
    exact mapsLg_le l _ (by omega)
   ·exact h
end

section
set_option maxRecDepth 100000
open Go.RowKit
def LongAt (w:World) (v:Value) (Ms:List MapP):Prop:=Ms.length ≤ 1000 ∧ ∃ b o c,v = .slice (some ⟨b,o,none⟩) Ms.length c ∧ ∀ i M,Ms[i]? = some M → ∃ a1 c1 a2 c2,w.cell? ⟨b,o + i * 2,none⟩ = some (.slice a1 M.repos.length c1) ∧ w.cell? ⟨b,o + i * 2 + 1,none⟩ = some (.slice a2 M.maps.length c2) ∧ ReposAt w (.slice a1 M.repos.length c1) M.repos ∧ MapsAt w (.slice a2 M.maps.length c2) M.maps
set_option maxHeartbeats 16000000 in
theorem Long_any (Ms:List MapP) (v:Value) (w:World) (h:LongAt w v Ms) :
 Calls Tryz.prog 5 #[v] w fun e w' => e = .returned (.bool (decide (20000 ≤ longLg 0 Ms))) ∧ Below w.heap.size w w':=by
 obtain ⟨hN3,b,off,c,rfl,hc⟩:=h
 obtain ⟨N,hN⟩:∃ n,Ms.length = n:=⟨_,rfl⟩
 obtain ⟨R,hR⟩:∃ R,longLg 0 Ms = R:=⟨_,rfl⟩
 rw [hN] at hN3 ⊢
 rw [hR]
 have HR:Hid (longLg 0 (Ms.drop 0) = R):=hR
 have HC:=Lib.hid hc
 have HN:=Lib.hid hN
 clear hc hN hR
 go_enter Tryz.func5,Tryz.ntmps5
 go_wp2_with fail
 go_loopw [3,4] (fun nv i wr => ∃ k m:Nat,k ≤ N ∧ nv = .int .i64 m ∧ i = .int .i64 k ∧ m ≤ 200000 ∧ Hid (longLg m (Ms.drop k) = R) ∧ Hid (Below w.heap.size w wr)) (fun _ i _ => N - (intOf i).toNat)
 case atStart => exact ⟨0,0,by omega,rfl,rfl,by omega,HR.out,Below.refl _ _⟩
 case round =>
  obtain ⟨k,m,hk,rfl,rfl,hm,HT,HB⟩:=hrel
  by_cases hkN:k < N
  ·obtain ⟨M,hM⟩:∃ s,Ms[k]? = some s:=⟨_,List.getElem?_eq_getElem (by rw [HN.out]; exact hkN)⟩
   obtain ⟨ra,rc,ma,mc,p0,p1,hr,hm2⟩:=HC.out k M hM
   obtain ⟨ra',rc',e0,hrl,hrc⟩:=hr.at
   simp only [Value.slice.injEq,true_and] at e0
   obtain ⟨rfl,rfl⟩:=e0
   obtain ⟨ma',mc',e1,hml,hmc⟩:=hm2.at
   simp only [Value.slice.injEq,true_and] at e1
   obtain ⟨rfl,rfl⟩:=e1
   have hst:=HT.out
   rw [longLg_step hM] at hst
   obtain ⟨rs,hrs⟩:∃ x,M.repos = x:=⟨_,rfl⟩
   obtain ⟨ms,hms⟩:∃ x,M.maps = x:=⟨_,rfl⟩
   rw [hrs] at hst p0 hr hrl hrc
   rw [hms] at hst p1 hm2 hml hmc
   obtain ⟨n1,hn1⟩:∃ n,rs.length = n:=⟨_,rfl⟩
   obtain ⟨n2,hn2⟩:∃ n,ms.length = n:=⟨_,rfl⟩
   rw [hn1] at p0 hrl
   rw [hn2] at p1 hml
   have i0:(0:Int) ≤ (k:Int):=by omega
   have i1:(k:Int) < (N:Int):=by omega
   have HST:=Lib.hid hst
   have HRC:=Lib.hid hrc
   have HMC:=Lib.hid hmc
   have HN1:=Lib.hid hn1
   have HN2:=Lib.hid hn2
   obtain ⟨x1,hx1⟩:∃ x,reposLg m rs = x:=⟨_,rfl⟩
   have hx1b:x1 ≤ 200000:=by rw [← hx1]; exact reposLg_le _ _ hm
   rw [hx1] at hst
   obtain ⟨x2,hx2⟩:∃ x,mapsLg x1 ms = x:=⟨_,rfl⟩
   have hx2b:x2 ≤ 200000:=by rw [← hx2]; exact mapsLg_le _ _ hx1b
   rw [hx2] at hst
   have HST:=Lib.hid hst
   have HX1:Hid (reposLg m (rs.drop 0) = x1):=hx1
   have HX2:Hid (mapsLg x1 (ms.drop 0) = x2):=hx2
   have PB0:=Lib.hid p0
   have PB1:=Lib.hid p1
   clear hM hr hm2 hrc hmc hst hn1 hn2 hx1 hx2 hrs hms HT
   have p0':=cell_keep HB.out p0
   have p1':=cell_keep HB.out p1
   go_wp2_with fail
   go_loopw [3,5] (fun nv i wr => ∃ j q:Nat,j ≤ n1 ∧ nv = .int .i64 q ∧ i = .int .i64 j ∧ q ≤ 200000 ∧ Hid (reposLg q (rs.drop j) = x1) ∧ Hid (Below w.heap.size w wr)) (fun _ i _ => n1 - (intOf i).toNat)
   case atStart => exact ⟨0,m,by omega,rfl,rfl,hm,HX1.out,HB.out⟩
   case round =>
    obtain ⟨j,q,hj,rfl,rfl,hq,HT1,HB1⟩:=hrel
    have p0:=cell_keep HB1.out p0
    have p1:=cell_keep HB1.out p1
    clear p0' p1'
    by_cases hjn:j < n1
    ·obtain ⟨r,hr⟩:∃ s,rs[j]? = some s:=⟨_,List.getElem?_eq_getElem (by rw [HN1.out]; exact hjn)⟩
     obtain ⟨xb,xo,a1,c1,rfl,t0,t1,hsz,s1⟩:=HRC.out j r hr
     have t0:=cell_keep HB1.out t0
     have t1:=cell_keep HB1.out t1
     have hst1:=HT1.out
     rw [reposLg_step hr] at hst1
     have j0:(0:Int) ≤ (j:Int):=by omega
     have j1:(j:Int) < (n1:Int):=by omega
     have j2:decide ((j:Int) < (n1:Int)) = true:=decide_eq_true j1
     have j2':decide (j < n1) = true:=decide_eq_true hjn
     by_cases hqq:q < 20000
     ·rw [if_pos hqq] at hst1
      have g1:decide ((q:Int) < 20000) = true:=decide_eq_true (by omega)
      have g1':decide (q < 20000) = true:=decide_eq_true hqq
      have HTX:=Lib.hid (fun W (hb:Below w.heap.size w W) => (texts_any r.2 _ W (s1.keep hb)).mono fun e w' h => (⟨h.1,h.2.symm⟩:_ ∧ w' = W))
      have b1:=textsN_le r.2
      obtain ⟨T,hT⟩:∃ t,textsN r.2 = t:=⟨_,rfl⟩
      rw [hT] at HTX b1 hst1
      obtain ⟨l1,hl1⟩:∃ t,r.2.length = t:=⟨_,rfl⟩
      rw [hl1] at t1 HTX
      obtain ⟨y,hy⟩:∃ z,r.1.size = z:=⟨_,rfl⟩
      rw [hy] at hst1 hsz
      obtain ⟨nm,hnm⟩:∃ z,r.1 = z:=⟨_,rfl⟩
      rw [hnm] at t0 hy
      unfold maxLen at hsz
      obtain ⟨u,hu⟩:∃ q,min 20000 y = q:=⟨_,rfl⟩
      rw [hu] at hst1
      have hui:min (20000:Int) (y:Int) = (u:Int):=by omega
      have hu2:u ≤ 20000:=by omega
      have w1:IntKind.i64.wrap ((q:Int) + 5) = (q:Int) + 5:=IntWalk.i64_in _ (by omega)
      have w2:IntKind.i64.wrap ((q:Int) + 5 + (u:Int)) = (q:Int) + 5 + (u:Int):=IntWalk.i64_in _ (by omega)
      have w3:IntKind.i64.wrap ((q:Int) + 5 + (u:Int) + (T:Int)) = (q:Int) + 5 + (u:Int) + (T:Int):=IntWalk.i64_in _ (by omega)
      have HS1:=Lib.hid hst1
      clear hst1 hr HT1 s1 hT hl1 hnm hu
      go_wp2_with fail
      go_quiet ((go_at_call 20; with_reducible exact Calls.quiet_of_same (HTX.out _ (below_drewN HB1.out _))))
      go_wp2_with fail
      exact ⟨⟨j + 1,q + 5 + u + T,by omega,by go_num,by go_num,by omega,HS1,below_drewN HB1.out _⟩,by simp [intOf]; omega⟩
     ·rw [if_neg hqq] at hst1
      have g1:decide ((q:Int) < 20000) = false:=decide_eq_false (by omega)
      have g1':decide (q < 20000) = false:=decide_eq_false hqq
      clear hr HT1 s1
      subst hst1
      go_wp2_with fail
      go_loopw [3,6] (fun nv i wr => ∃ j q:Nat,j ≤ n2 ∧ nv = .int .i64 q ∧ i = .int .i64 j ∧ q ≤ 200000 ∧ Hid (mapsLg q (ms.drop j) = x2) ∧ Hid (Below w.heap.size w wr)) (fun _ i _ => n2 - (intOf i).toNat)
      case atStart => exact ⟨0,_,by omega,rfl,rfl,hx1b,HX2.out,HB1.out⟩
      case round =>
       obtain ⟨f,z,hf,rfl,rfl,hz,HT2,HB2⟩:=hrel
       have p0:=cell_keep HB2.out PB0.out
       have p1:=cell_keep HB2.out PB1.out
       by_cases hfn:f < n2
       ·obtain ⟨x,hx⟩:∃ s,ms[f]? = some s:=⟨_,List.getElem?_eq_getElem (by rw [HN2.out]; exact hfn)⟩
        obtain ⟨xb,xo,a1,c1,a2,c2,rfl,t0,t1,-,-,s1,s2,-⟩:=HMC.out f x hx
        have t0:=cell_keep HB2.out t0
        have t1:=cell_keep HB2.out t1
        have hst2:=HT2.out
        rw [mapsLg_step hx] at hst2
        have j0:(0:Int) ≤ (f:Int):=by omega
        have j1:(f:Int) < (n2:Int):=by omega
        have j2:decide ((f:Int) < (n2:Int)) = true:=decide_eq_true j1
        have j2':decide (f < n2) = true:=decide_eq_true hfn
        by_cases hzz:z < 20000
        ·rw [if_pos hzz] at hst2
         have g1:decide ((z:Int) < 20000) = true:=decide_eq_true (by omega)
         have g1':decide (z < 20000) = true:=decide_eq_true hzz
         have HTX1:=Lib.hid (fun W (hb:Below w.heap.size w W) => (texts_any x.paths _ W (s1.keep hb)).mono fun e w' h => (⟨h.1,h.2.symm⟩:_ ∧ w' = W))
         have HTX2:=Lib.hid (fun W (hb:Below w.heap.size w W) => (texts_any x.repos _ W (s2.keep hb)).mono fun e w' h => (⟨h.1,h.2.symm⟩:_ ∧ w' = W))
         have b1:=textsN_le x.paths
         have b2:=textsN_le x.repos
         obtain ⟨T1,hT1⟩:∃ t,textsN x.paths = t:=⟨_,rfl⟩
         obtain ⟨T2,hT2⟩:∃ t,textsN x.repos = t:=⟨_,rfl⟩
         rw [hT1] at HTX1 b1 hst2
         rw [hT2] at HTX2 b2 hst2
         obtain ⟨l1,hl1⟩:∃ t,x.paths.length = t:=⟨_,rfl⟩
         obtain ⟨l2,hl2⟩:∃ t,x.repos.length = t:=⟨_,rfl⟩
         rw [hl1] at t0 HTX1
         rw [hl2] at t1 HTX2
         have w1:IntKind.i64.wrap ((z:Int) + 5) = (z:Int) + 5:=IntWalk.i64_in _ (by omega)
         have w2:IntKind.i64.wrap ((z:Int) + 5 + (T1:Int)) = (z:Int) + 5 + (T1:Int):=IntWalk.i64_in _ (by omega)
         have w3:IntKind.i64.wrap ((z:Int) + 5 + (T1:Int) + (T2:Int)) = (z:Int) + 5 + (T1:Int) + (T2:Int):=IntWalk.i64_in _ (by omega)
         have HS2:=Lib.hid hst2
         clear hst2 hx HT2 s1 s2 hT1 hT2 hl1 hl2
         go_wp2_with fail
         go_quiet ((first | (go_at_call 20; with_reducible exact Calls.quiet_of_same (HTX1.out _ (below_drewN HB2.out _))) | (go_at_call 20; with_reducible exact Calls.quiet_of_same (HTX2.out _ (below_drewN HB2.out _)))))
         go_wp2_with fail
         exact ⟨⟨f + 1,z + 5 + T1 + T2,by omega,by go_num,by go_num,by omega,HS2,below_drewN HB2.out _⟩,by simp [intOf]; omega⟩
        ·rw [if_neg hzz] at hst2
         have g1:decide ((z:Int) < 20000) = false:=decide_eq_false (by omega)
         have g1':decide (z < 20000) = false:=decide_eq_false hzz
         clear hx HT2 s1 s2
         subst hst2
         go_wp2_with fail
         exact ⟨⟨k + 1,_,by omega,by go_num,by go_num,hx2b,HST,HB2⟩,by simp [intOf]; omega⟩
       ·obtain rfl:f = n2:=by omega
        have j1:¬ (f:Int) < (f:Int):=by omega
        have hst2:=HT2.out
        rw [List.drop_of_length_le (by rw [HN2.out]; exact Nat.le_refl _),mapsLg] at hst2
        clear HT2
        subst hst2
        go_wp2_with fail
        exact ⟨⟨k + 1,_,by omega,by go_num,by go_num,hx2b,HST,HB2⟩,by simp [intOf]; omega⟩
    ·obtain rfl:j = n1:=by omega
     have j1:¬ (j:Int) < (j:Int):=by omega
     have hst1:=HT1.out
     rw [List.drop_of_length_le (by rw [HN1.out]; exact Nat.le_refl _),reposLg] at hst1
     clear HT1
     subst hst1
     go_wp2_with fail
     go_loopw [3,6] (fun nv i wr => ∃ j q:Nat,j ≤ n2 ∧ nv = .int .i64 q ∧ i = .int .i64 j ∧ q ≤ 200000 ∧ Hid (mapsLg q (ms.drop j) = x2) ∧ Hid (Below w.heap.size w wr)) (fun _ i _ => n2 - (intOf i).toNat)
     case atStart => exact ⟨0,_,by omega,rfl,rfl,hx1b,HX2.out,HB1.out⟩
     case round =>
      obtain ⟨f,z,hf,rfl,rfl,hz,HT2,HB2⟩:=hrel
      have p0:=cell_keep HB2.out PB0.out
      have p1:=cell_keep HB2.out PB1.out
      by_cases hfn:f < n2
      ·obtain ⟨x,hx⟩:∃ s,ms[f]? = some s:=⟨_,List.getElem?_eq_getElem (by rw [HN2.out]; exact hfn)⟩
       obtain ⟨xb,xo,a1,c1,a2,c2,rfl,t0,t1,-,-,s1,s2,-⟩:=HMC.out f x hx
       have t0:=cell_keep HB2.out t0
       have t1:=cell_keep HB2.out t1
       have hst2:=HT2.out
       rw [mapsLg_step hx] at hst2
       have j0:(0:Int) ≤ (f:Int):=by omega
       have j1:(f:Int) < (n2:Int):=by omega
       have j2:decide ((f:Int) < (n2:Int)) = true:=decide_eq_true j1
       have j2':decide (f < n2) = true:=decide_eq_true hfn
       by_cases hzz:z < 20000
       ·rw [if_pos hzz] at hst2
        have g1:decide ((z:Int) < 20000) = true:=decide_eq_true (by omega)
        have g1':decide (z < 20000) = true:=decide_eq_true hzz
        have HTX1:=Lib.hid (fun W (hb:Below w.heap.size w W) => (texts_any x.paths _ W (s1.keep hb)).mono fun e w' h => (⟨h.1,h.2.symm⟩:_ ∧ w' = W))
        have HTX2:=Lib.hid (fun W (hb:Below w.heap.size w W) => (texts_any x.repos _ W (s2.keep hb)).mono fun e w' h => (⟨h.1,h.2.symm⟩:_ ∧ w' = W))
        have b1:=textsN_le x.paths
        have b2:=textsN_le x.repos
        obtain ⟨T1,hT1⟩:∃ t,textsN x.paths = t:=⟨_,rfl⟩
        obtain ⟨T2,hT2⟩:∃ t,textsN x.repos = t:=⟨_,rfl⟩
        rw [hT1] at HTX1 b1 hst2
        rw [hT2] at HTX2 b2 hst2
        obtain ⟨l1,hl1⟩:∃ t,x.paths.length = t:=⟨_,rfl⟩
        obtain ⟨l2,hl2⟩:∃ t,x.repos.length = t:=⟨_,rfl⟩
        rw [hl1] at t0 HTX1
        rw [hl2] at t1 HTX2
        have w1:IntKind.i64.wrap ((z:Int) + 5) = (z:Int) + 5:=IntWalk.i64_in _ (by omega)
        have w2:IntKind.i64.wrap ((z:Int) + 5 + (T1:Int)) = (z:Int) + 5 + (T1:Int):=IntWalk.i64_in _ (by omega)
        have w3:IntKind.i64.wrap ((z:Int) + 5 + (T1:Int) + (T2:Int)) = (z:Int) + 5 + (T1:Int) + (T2:Int):=IntWalk.i64_in _ (by omega)
        have HS2:=Lib.hid hst2
        clear hst2 hx HT2 s1 s2 hT1 hT2 hl1 hl2
        go_wp2_with fail
        go_quiet ((first | (go_at_call 20; with_reducible exact Calls.quiet_of_same (HTX1.out _ (below_drewN HB2.out _))) | (go_at_call 20; with_reducible exact Calls.quiet_of_same (HTX2.out _ (below_drewN HB2.out _)))))
        go_wp2_with fail
        exact ⟨⟨f + 1,z + 5 + T1 + T2,by omega,by go_num,by go_num,by omega,HS2,below_drewN HB2.out _⟩,by simp [intOf]; omega⟩
       ·rw [if_neg hzz] at hst2
        have g1:decide ((z:Int) < 20000) = false:=decide_eq_false (by omega)
        have g1':decide (z < 20000) = false:=decide_eq_false hzz
        clear hx HT2 s1 s2
        subst hst2
        go_wp2_with fail
        exact ⟨⟨k + 1,_,by omega,by go_num,by go_num,hx2b,HST,HB2⟩,by simp [intOf]; omega⟩
      ·obtain rfl:f = n2:=by omega
       have j1:¬ (f:Int) < (f:Int):=by omega
       have hst2:=HT2.out
       rw [List.drop_of_length_le (by rw [HN2.out]; exact Nat.le_refl _),mapsLg] at hst2
       clear HT2
       subst hst2
       go_wp2_with fail
       exact ⟨⟨k + 1,_,by omega,by go_num,by go_num,hx2b,HST,HB2⟩,by simp [intOf]; omega⟩
  ·obtain rfl:k = N:=by omega
   have i1:¬ (k:Int) < (k:Int):=by omega
   have hst:=HT.out
   rw [List.drop_of_length_le (by rw [HN.out]; exact Nat.le_refl _),longLg] at hst
   clear HT
   subst hst
   have hge:decide ((20000:Int) ≤ (m:Int)) = decide (20000 ≤ m):=by
    by_cases h:20000 ≤ m
    ·rw [decide_eq_true h,decide_eq_true (by omega)]
    ·rw [decide_eq_false h,decide_eq_false (by omega)]
   go_wp2_with fail
   go_ret
   exact ⟨by first | rfl | (rw [hge]) | simp [hge],HB.out⟩
end

section
open Go.RowKit
theorem longAt_one {w:World} {b:Nat} {M:MapP} {a1 a2:Option Addr} {n1 c1 n2 c2:Nat} (hk:BlkAt w b 25 #[.slice a1 n1 c1,.slice a2 n2 c2]) (h:MapAt w (.agg #[.slice a1 n1 c1,.slice a2 n2 c2]) M):LongAt w (.slice (some ⟨b,0,none⟩) 1 1) [M]:=by
 obtain ⟨b1,d1,b2,d2,e,hr,hm⟩:=h.parts
 simp only [Value.agg.injEq,Array.mk.injEq,List.cons.injEq,Value.slice.injEq,and_true] at e
 obtain ⟨⟨rfl,rfl,rfl⟩,rfl,rfl,rfl⟩:=e
 refine ⟨by show 1 ≤ 1000; decide,b,0,1,rfl,fun i M' hi => ?_⟩
 match i,hi with
 | 0,hi =>
   obtain rfl:M = M':=by simpa using hi
   exact ⟨_,_,_,_,by rw [BlkAt.cell hk]; rfl,by rw [BlkAt.cell hk]; rfl,hr,hm⟩
 | i + 1,hi => simp at hi
theorem longB (Ms:List MapP) (v:Value) (w:World) (h:LongAt w v Ms) (b:Bool) (hb:decide (20000 ≤ longLg 0 Ms) = b) :
 Calls Tryz.prog 5 #[v] w fun e w' => e = .returned (.bool b) ∧ Below w.heap.size w w':=by
 rw [← hb]; exact Long_any Ms v w h
end

section
open Go.RowKit
theorem emptyMap_at (W:World):MapAt W (.agg #[.slice none 0 0,.slice none 0 0]) ⟨[],[]⟩ :=
 ⟨_,_,rfl,⟨by show 0 ≤ _; decide,none,0,rfl,fun i r hi => by simp at hi⟩,⟨by show 0 ≤ _; decide,fun a n c e => by simp only [Value.slice.injEq] at e; omega,none,0,rfl,fun i x hi => by simp at hi⟩⟩
end
end Go.Proofs.YtaloajeldimpnaaGreatDoor
