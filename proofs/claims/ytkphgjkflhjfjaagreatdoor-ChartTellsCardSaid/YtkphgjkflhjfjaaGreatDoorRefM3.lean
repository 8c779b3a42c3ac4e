/-
 legateref25.May: may a map be.
-/
import Derived.Test.YtkphgjkflhjfjaaGreatDoorRefM2
import Derived.Test.YtkphgjkflhjfjaaGreatDoorChartM
import Derived.Test.YtkphgjkflhjfjaaGreatDoorChartLb
import Derived.Test.YtkphgjkflhjfjaaGreatDoorValRef3
import Derived.Deep.RegionHeldLaw
import Derived.Deep.DeepCutAuto
namespace Go.Proofs.YtkphgjkflhjfjaaGreatDoor
set_option maxRecDepth 100000
open Go.RowKit
/-! Texts of which there is not too much are short. -/
theorem textsGo_short:∀ (l:List ByteArray) (n:Nat),textsGo n l < 20000 → ∀ s ∈ l,s.size ≤ 20000
 | [],n,_,s,hs => by cases hs
 | t :: l,n,h,s,hs => by
   rw [textsGo] at h
   by_cases hn:n < 20000
   ·rw [if_pos hn] at h
    have h2:=textsGo_ge l (n + 5 + min 20000 t.size)
    rcases List.mem_cons.1 hs with rfl | hs
    ·omega
    ·exact textsGo_short l _ h s hs
   ·rw [if_neg hn] at h; omega
theorem reposLg_short:∀ (l:List RepoP) (n:Nat),reposLg n l < 20000 → ∀ r ∈ l,∀ s ∈ r.2,s.size ≤ 20000
 | [],n,_,r,hr => by cases hr
 | t :: l,n,h,r,hr => by
   rw [reposLg] at h
   by_cases hn:n < 20000
   ·rw [if_pos hn] at h
    have h2:=reposLg_ge l (n + 5 + min 20000 t.1.size + textsN t.2)
    rcases List.mem_cons.1 hr with rfl | hr
    ·exact textsGo_short r.2 0 (show textsN r.2 < 20000 by omega)
    ·exact reposLg_short l _ h r hr
   ·rw [if_neg hn] at h; omega
theorem longLg_short:∀ (l:List MapP) (n:Nat),longLg n l < 20000 → ∀ M ∈ l,∀ r ∈ M.repos,∀ s ∈ r.2,s.size ≤ 20000
 | [],n,_,M,hM => by cases hM
 | s :: l,n,h,M,hM => by
   rw [longLg] at h
   rcases List.mem_cons.1 hM with rfl | hM
   ·have h1:=longLg_ge l (mapsLg (reposLg n M.repos) M.maps)
    have h2:=mapsLg_ge M.maps (reposLg n M.repos)
    exact reposLg_short M.repos n (by omega)
   ·exact longLg_short l _ h M hM
theorem urls_step {l:List ByteArray} {k:Nat} {s:ByteArray} (hs:l[k]? = some s) (ha:(l.take k).all writ = true) (h:writ s = true):(l.take (k + 1)).all writ = true:=by
 rw [List.take_add_one,hs,List.all_append,ha]
 simp [h]
theorem urls_no {l:List ByteArray} {k:Nat} {s:ByteArray} (hs:l[k]? = some s) (h:writ s = false):urlsB l = false:=by
 unfold urlsB
 rw [Bool.and_eq_false_iff]
 exact Or.inr (List.all_eq_false.2 ⟨s,List.mem_of_getElem? hs,by rw [h]; decide⟩)
def headB (l:List RepoP) (k:Nat) (x:RepoP):Bool:=roleB x.1 && (match k with | 0 => true | j + 1 => match l[j]? with | some y => Op.bytesLess y.1.toList x.1.toList | none => true) && decide (x.2.length ≤ 8)
theorem repoTo_head {l:List RepoP} {k:Nat} {x:RepoP} (hx:l[k]? = some x) (ht:repoTo l k = true):repoTo l (k + 1) = (headB l k x && x.2.all writ):=by
 cases k with
 | zero =>
   rw [repoTo_first hx]
   unfold headB okR urlsB
   simp only [Bool.and_true,Bool.and_assoc]
 | succ j =>
   obtain ⟨y,hy⟩:∃ y,l[j]? = some y:=⟨_,List.getElem?_eq_getElem (by have:=(List.getElem?_eq_some_iff.1 hx).1; omega)⟩
   rw [repoTo_step hy hx,ht]
   unfold headB okR urlsB
   simp only [hy,Bool.true_and]
   cases roleB x.1 <;> cases Op.bytesLess y.1.toList x.1.toList <;> simp
set_option maxHeartbeats 32000000 in
theorem may25_any (M:MapP) (v:Value) (w:World) (h:MapAt w v M) (hsh:∀ r ∈ M.repos,∀ s ∈ r.2,s.size ≤ 20000) :
 Calls Tryz.prog 11 #[v] w fun e w' => e = .returned (.bool (mayM M)) ∧ Below w.heap.size w w':=by
 have HMH:=Lib.hid h
 obtain ⟨a1,c1,a2,c2,rfl,hr,hm⟩:=h.parts
 obtain ⟨_,_,e1,hl1,hc⟩:=hr.at
 obtain ⟨_,_,e2,hl2,hd⟩:=hm.at
 simp only [Value.slice.injEq,true_and] at e1 e2
 obtain ⟨rfl,rfl⟩:=e1
 obtain ⟨rfl,rfl⟩:=e2
 obtain ⟨r,hrr⟩:∃ r,mayM M = r:=⟨_,rfl⟩
 rw [hrr]
 rw [mayM_eq] at hrr
 obtain ⟨n,hn⟩:∃ n,M.repos.length = n:=⟨_,rfl⟩
 obtain ⟨m,hk⟩:∃ n,M.maps.length = n:=⟨_,rfl⟩
 rw [hn,hk] at HMH
 rw [hn] at hr hl1 hrr ⊢
 rw [hk] at hl2 hrr ⊢
 obtain ⟨W,hW⟩:∃ W,W = w.alloc (.cells #[.slice a1 n c1,.slice a2 m c2] 25):=⟨_,rfl⟩
 have hBW:Below w.heap.size w W:=by rw [hW]; exact bel_alloc (Below.refl _ _) _
 have HA:Hid (BlkAt W w.heap.size 25 #[.slice a1 n c1,.slice a2 m c2]):=by rw [hW]; exact blkAt_newC w _ _
 have HW:=Lib.hid hW
 have HBW:=Lib.hid hBW
 have HC:=Lib.hid hc
 have HD:=Lib.hid hd
 have HN:=Lib.hid hn
 have HK:=Lib.hid hk
 have HSH:=Lib.hid hsh
 obtain ⟨p0,p1,pf⟩:=b2c HA.out
 rw [hW] at p0 p1 pf
 clear h hr hm hc hd hn hk hW hBW hsh
 by_cases h1:n < 1
 ·obtain rfl:false = r:=by rw [← hrr,decide_eq_false (by omega)]; rfl
  have g1:decide ((n:Int) < 1) = true:=decide_eq_true (by omega)
  have g1':decide (n < 1) = true:=decide_eq_true h1
  clear hrr
  go_enter Tryz.func11,Tryz.ntmps11
  go_wp2_with fail
  rw [← HW.out]
  go_ret
  exact ⟨rfl,HBW.out⟩
 ·have g1:decide ((n:Int) < 1) = false:=decide_eq_false (by omega)
  have g1':decide (n < 1) = false:=decide_eq_false h1
  by_cases h2:8 < n
  ·obtain rfl:false = r:=by rw [← hrr,decide_eq_false (show ¬ n ≤ 8 by omega)]; simp
   have g2:decide ((8:Int) < (n:Int)) = true:=decide_eq_true (by omega)
   have g2':decide (8 < n) = true:=decide_eq_true h2
   clear hrr
   go_enter Tryz.func11,Tryz.ntmps11
   go_wp2_with fail
   rw [← HW.out]
   go_ret
   exact ⟨rfl,HBW.out⟩
  ·have g2:decide ((8:Int) < (n:Int)) = false:=decide_eq_false (by omega)
   have g2':decide (8 < n) = false:=decide_eq_false h2
   by_cases h3:16 < m
   ·obtain rfl:false = r:=by rw [← hrr,decide_eq_false (show ¬ m ≤ 16 by omega)]; simp
    have g3:decide ((16:Int) < (m:Int)) = true:=decide_eq_true (by omega)
    have g3':decide (16 < m) = true:=decide_eq_true h3
    clear hrr
    go_enter Tryz.func11,Tryz.ntmps11
    go_wp2_with fail
    rw [← HW.out]
    go_ret
    exact ⟨rfl,HBW.out⟩
   ·have g3:decide ((16:Int) < (m:Int)) = false:=decide_eq_false (by omega)
    have g3':decide (16 < m) = false:=decide_eq_false h3
    have hr2:((ascB (namesR M.repos) && M.repos.all okR) && wrongs M) = r:=by
     rw [← hrr,decide_eq_true (show 1 ≤ n by omega),decide_eq_true (show n ≤ 8 by omega),decide_eq_true (show m ≤ 16 by omega)]
     rfl
    have HR:=Lib.hid hr2
    clear hrr hr2
    go_enter Tryz.func11,Tryz.ntmps11
    go_wp2_with fail
    rw [← HW.out]
    clear g1 g1' g2 g2' g3 g3' p0 p1 pf
    go_loopw [3] (fun i wr => ∃ k:Nat,k ≤ n ∧ i = .int .i64 k ∧ Hid (repoTo M.repos k = true) ∧ Hid (Below W.heap.size W wr)) (fun i _ => n - (intOf i).toNat)
    case atStart => exact ⟨0,by omega,rfl,rfl,Below.refl _ _⟩
    case round =>
     obtain ⟨k,hk,rfl,HT,HB⟩:=hrel
     obtain ⟨q0,q1,qf⟩:=b2c (HA.out.keep HB.out)
     by_cases hlt:k < n
     ·obtain ⟨x,hx⟩:∃ x,M.repos[k]? = some x:=⟨_,List.getElem?_eq_getElem (by rw [HN.out]; exact hlt)⟩
      obtain ⟨b,o,b1,d1,rfl,x0,x1,hxs,hxu⟩:=HC.out k x hx
      have hbw:=below_more HBW.out HB.out
      have x1w:=x1
      have x0:=cell_keep hbw x0
      have x1:=cell_keep hbw x1
      have i0:(0:Int) ≤ (k:Int):=by omega
      have i1:(k:Int) < (n:Int):=by omega
      have hst:=repoTo_head hx HT.out
      have HSX:=Lib.hid (HSH.out x (List.mem_of_getElem? hx))
      obtain ⟨hb,hhb⟩:∃ b,headB M.repos k x = b:=⟨_,rfl⟩
      rw [hhb] at hst
      have HST:=Lib.hid hst
      have HHB:=Lib.hid hhb
      have HXU:=Lib.hid hxu
      have HX:=Lib.hid hx
      have HBw:=Lib.hid hbw
      obtain ⟨xn,xu⟩:=x
      simp only at x0 x1 x1w
      have HRO:=Lib.hid (fun Y => role13_any xn Y)
      obtain ⟨ul,hul⟩:∃ l,xu.length = l:=⟨_,rfl⟩
      rw [hul] at x1 x1w
      have HUL:=Lib.hid hul
      have HX1:=Lib.hid x1w
      clear hst hhb hxu hx hbw hxs hul x1w
      go_wp2_with fail
      go_cut [66] from 22 to 88 (fun s wx => s = .bool (!hb) ∧ Hid (Below wr.heap.size wr wx))
      case first =>
       cases ho:roleB xn with
       | false =>
         rw [ho] at HRO
         obtain rfl:false = hb:=by rw [← HHB.out]; unfold headB; simp only [ho,Bool.false_and]
         go_quiet ((go_at_call 35; exact Calls.quiet_of_same (HRO.out _)))
         go_wp2_with fail
         go_simp
         go_meet
         case rel => exact ⟨rfl,below_drewN (Below.refl _ _) _⟩
       | true =>
         rw [ho] at HRO
         by_cases hk0:k = 0
         ·have HK0:=Lib.hid hk0
          have gk:decide ((0:Int) < (k:Int)) = false:=decide_eq_false (by omega)
          have gk':decide (0 < k) = false:=decide_eq_false (by omega)
          have hkk:=HK0.out
          clear hk0
          by_cases h8:8 < ul
          ·have g8:decide ((8:Int) < (ul:Int)) = true:=decide_eq_true (by omega)
           have g8':decide (8 < ul) = true:=decide_eq_true h8
           obtain rfl:false = hb:=by rw [← HHB.out]; unfold headB; rw [hkk]; have:=HUL.out; simp only [ho,Bool.true_and]; exact (decide_eq_false (by omega)).symm
           clear hkk
           go_quiet ((go_at_call 35; exact Calls.quiet_of_same (HRO.out _)))
           go_wp2_with fail
           go_simp
           go_meet
           case rel => exact ⟨rfl,below_drewN (Below.refl _ _) _⟩
          ·have g8:decide ((8:Int) < (ul:Int)) = false:=decide_eq_false (by omega)
           have g8':decide (8 < ul) = false:=decide_eq_false h8
           obtain rfl:true = hb:=by rw [← HHB.out]; unfold headB; rw [hkk]; have:=HUL.out; simp only [ho,Bool.true_and]; exact (decide_eq_true (by omega)).symm
           clear hkk
           go_quiet ((go_at_call 35; exact Calls.quiet_of_same (HRO.out _)))
           go_wp2_with fail
           go_simp
           go_meet
           case rel => exact ⟨rfl,below_drewN (Below.refl _ _) _⟩
         ·obtain ⟨j,rfl⟩:∃ j,k = j + 1:=⟨k - 1,by omega⟩
          obtain ⟨y,hy⟩:∃ x,M.repos[j]? = some x:=⟨_,List.getElem?_eq_getElem (by rw [HN.out]; omega)⟩
          obtain ⟨b',o',b2',d2',e3,y0,-,-,-⟩:=HC.out j y hy
          simp only [Option.some.injEq,Addr.mk.injEq,and_true] at e3
          obtain ⟨rfl,rfl⟩:=e3
          have y0':=cell_keep HBw.out y0
          have Hy:=Lib.hid hy
          clear hy y0
          obtain ⟨yn,yu⟩:=y
          simp only at y0'
          have hj0:(0:Int) ≤ (j:Int):=by omega
          have hj1:(j:Int) < (n:Int):=by omega
          have hj2:(j:Int) + 1 < (n:Int):=by omega
          have hj3:((j:Int) + 1).toNat = j + 1:=by omega
          have hw1:IntKind.i64.wrap ((j:Int) + 1 - 1) = (j:Int):=by rw [IntWalk.i64_in ((j:Int) + 1 - 1) (by omega)]; omega
          have hw2:IntKind.i64.wrap (j:Int) = (j:Int):=by rw [IntWalk.i64_in (j:Int) (by omega)]
          have gk:decide ((0:Int) < (j:Int) + 1) = true:=decide_eq_true (by omega)
          have hy2:=Hy.out
          cases hl:Op.bytesLess yn.toList xn.toList with
          | false =>
            obtain rfl:false = hb:=by rw [← HHB.out]; unfold headB; simp only [ho,hy2,hl,Bool.true_and,Bool.false_and]
            go_quiet ((go_at_call 35; exact Calls.quiet_of_same (HRO.out _)))
            go_wp2_with fail
            go_simp
            go_meet
            case rel => exact ⟨rfl,below_drewN (Below.refl _ _) _⟩
          | true =>
            by_cases h8:8 < ul
            ·have g8:decide ((8:Int) < (ul:Int)) = true:=decide_eq_true (by omega)
             have g8':decide (8 < ul) = true:=decide_eq_true h8
             obtain rfl:false = hb:=by rw [← HHB.out]; unfold headB; have:=HUL.out; simp only [ho,hy2,hl,Bool.true_and]; exact (decide_eq_false (by omega)).symm
             go_quiet ((go_at_call 35; exact Calls.quiet_of_same (HRO.out _)))
             go_wp2_with fail
             go_simp
             go_meet
             case rel => exact ⟨rfl,below_drewN (Below.refl _ _) _⟩
            ·have g8:decide ((8:Int) < (ul:Int)) = false:=decide_eq_false (by omega)
             have g8':decide (8 < ul) = false:=decide_eq_false h8
             obtain rfl:true = hb:=by rw [← HHB.out]; unfold headB; have:=HUL.out; simp only [ho,hy2,hl,Bool.true_and]; exact (decide_eq_true (by omega)).symm
             go_quiet ((go_at_call 35; exact Calls.quiet_of_same (HRO.out _)))
             go_wp2_with fail
             go_simp
             go_meet
             case rel => exact ⟨rfl,below_drewN (Below.refl _ _) _⟩
      case rest =>
       obtain ⟨rfl,HBC⟩:=hcut
       have HBZ:=Lib.hid (below_more HB.out HBC.out)
       clear q0 q1 qf x0 x1
       cases hb with
       | false =>
         have hno:((ascB (namesR M.repos) && M.repos.all okR) && wrongs M) = false:=by rw [repoTo_mono (k:=k + 1) (by rw [HN.out]; omega) (by rw [HST.out]; rfl)]; rfl
         rw [HR.out] at hno
         subst hno
         have HBE:=Lib.hid (below_more HBW.out HBZ.out)
         go_wp2_with fail
         go_ret
         exact ⟨rfl,HBE.out⟩
       | true =>
         have HXK:Hid (∀ Y,Below w.heap.size w Y → Y.cell? ⟨b,o + k * 2 + 1,none⟩ = some (.slice b1 ul d1)):=fun Y hY => by
          exact cell_keep hY (HX1.out)
         obtain ⟨ua,uc,e4,hul4,hum,huc⟩:=HXU.out.parts
         (try simp only at e4 hul4)
         rw [HUL.out] at e4 hul4
         simp only [Value.slice.injEq] at e4
         obtain ⟨rfl,-,rfl⟩:=e4
         have HUC:=Lib.hid huc
         have HUM:=Lib.hid hum
         clear huc hum
         go_wp2_with fail
         go_loopw [4] (fun i wr => ∃ q:Nat,q ≤ ul ∧ i = .int .i64 q ∧ Hid ((xu.take q).all writ = true) ∧ Hid (Below W.heap.size W wr)) (fun i _ => ul - (intOf i).toNat)
         case atStart => exact ⟨0,by omega,rfl,(by show _ = _; simp),HBZ.out⟩
         case round =>
          obtain ⟨q,hq,rfl,HQ,HBQ⟩:=hrel
          have hbw:=below_more HBW.out HBQ.out
          obtain ⟨q0,q1,qf⟩:=b2c (HA.out.keep HBQ.out)
          have x1:=HXK.out _ hbw
          have j2:(0:Int) ≤ (q:Int):=by omega
          by_cases hqu:q < ul
          ·obtain ⟨s,hs⟩:∃ s,xu[q]? = some s:=⟨_,List.getElem?_eq_getElem (by rw [HUL.out]; exact hqu)⟩
           obtain ⟨ub,uo,rfl,hcs⟩:=HUC.out q s hs
           have hcs2:=cell_keep hbw hcs
           have j3:(q:Int) < (ul:Int):=by omega
           have hsz:=HSX.out s (List.mem_of_getElem? hs)
           have HWR:=Lib.hid (fun Y rr hr => refWrit_any s Y (by omega) rr hr)
           have HBE:=Lib.hid hbw
           cases hws:writ s with
           | true =>
             have HQ2:=Lib.hid (urls_step hs HQ.out hws)
             have HW2:=Lib.hid (fun Y => HWR.out Y true hws)
             clear hs hcs hsz hws hbw HWR HQ
             go_wp2_with fail
             refine (HW2.out _).mono ?_
             rintro e w2 ⟨rfl,hb2⟩
             have HB2:=Lib.hid (below_more HBQ.out hb2)
             clear hb2
             go_wp2_with fail
             refine ⟨?_,by simp [intOf]; omega⟩
             (repeat apply Exists.intro)
             exact ⟨⟨q + 1,by omega,by go_num,HQ2,HB2⟩,rfl⟩
           | false =>
             have hno:((ascB (namesR M.repos) && M.repos.all okR) && wrongs M) = false:=by
              have h1:M.repos.all okR = false:=List.all_eq_false.2 ⟨_,List.mem_of_getElem? HX.out,by unfold okR; rw [urls_no hs hws]; simp⟩
              rw [h1]; simp
             rw [HR.out] at hno
             subst hno
             have HW2:=Lib.hid (fun Y => HWR.out Y false hws)
             clear hs hcs hsz hws hbw HWR HQ
             go_wp2_with fail
             refine (HW2.out _).mono ?_
             rintro e w2 ⟨rfl,hb2⟩
             have HB2:=Lib.hid (below_more HBE.out hb2)
             clear hb2
             go_wp2_with fail
             go_ret
             exact ⟨rfl,HB2.out⟩
          ·have j3:¬ (q:Int) < (ul:Int):=by omega
           have HT2:Hid (repoTo M.repos (k + 1) = true):=by
            have h1:=HQ.out
            rw [List.take_of_length_le (by rw [HUL.out]; omega)] at h1
            have h2:=HST.out
            simp only [h1,Bool.and_true] at h2
            exact h2
           clear hbw HQ
           go_wp2_with fail
           first
            | exact ⟨⟨k + 1,by omega,by go_num,HT2,HBQ⟩,by simp [intOf]; omega⟩
            | (refine ⟨?_,by simp [intOf]; omega⟩; (repeat apply Exists.intro); exact ⟨⟨k + 1,by omega,by go_num,HT2,HBQ⟩,rfl⟩)
     ·obtain rfl:k = n:=by omega
      have hj1:¬ (k:Int) < (k:Int):=by omega
      have hall:=HT.out
      rw [repoTo_all HN.out (by omega)] at hall
      have hr:=HR.out
      rw [hall,Bool.true_and] at hr
      unfold wrongs at hr
      have HRW:=Lib.hid hr
      have HB0:=Lib.hid HB.out
      have hk8:k ≤ 8:=by omega
      clear hall hr HT HR HC
      go_wp2_with fail
      go_loopw [5] (fun i wr => ∃ i':Nat,i' ≤ m ∧ i = .int .i64 i' ∧ Hid ((M.maps.take i').all (fun x => decide (wrongV x (namesR M.repos) = 0)) = true) ∧ Hid (Below W.heap.size W wr)) (fun i _ => m - (intOf i).toNat)
      case atStart => exact ⟨0,by omega,rfl,(by show _ = _; simp),HB0.out⟩
      case round =>
       obtain ⟨i,hi,rfl,HT2,HB2⟩:=hrel
       have hbw:=below_more HBW.out HB2.out
       obtain ⟨q0,q1,qf⟩:=b2c (HA.out.keep HB2.out)
       by_cases hlt2:i < m
       ·obtain ⟨x,hx⟩:∃ x,M.maps[i]? = some x:=⟨_,List.getElem?_eq_getElem (by rw [HK.out]; exact hlt2)⟩
        obtain ⟨b,o,b1,d1,b2',d2,rfl,x0,x1,x2,x3,hs1,hs2,hmx⟩:=HD.out i x hx
        have hcap:x.repos.length ≤ d2:=by obtain ⟨_,_,_,_,e,-,-,hcp,-⟩:=hmx.parts; simp only [Value.agg.injEq,Array.mk.injEq,List.cons.injEq,Value.slice.injEq,true_and,and_true] at e; obtain ⟨-,-,rfl⟩:=e; exact hcp
        have x0:=cell_keep hbw x0
        have x1:=cell_keep hbw x1
        have x2:=cell_keep hbw x2
        have x3:=cell_keep hbw x3
        have i0:(0:Int) ≤ (i:Int):=by omega
        have i1:(i:Int) < (m:Int):=by omega
        obtain ⟨bb,hbb⟩:∃ c,decide (wrongV x (namesR M.repos) = 0) = c:=⟨_,rfl⟩
        have HNA:=Lib.hid (fun Y (hY:Below wr.heap.size wr Y) => names25_any M k HN.out _ Y ((HMH.out.keep hbw).keep hY) (by omega))
        have HMR:Hid (∀ (Z Y:World) (na:Option Addr) (nc:Nat),StrsAt Z (.slice na k nc) (namesR M.repos) → Below Z.heap.size Z Y → Below wr.heap.size wr Y → _):=fun Z Y na nc hZ hZY hY => mapR25_any x (namesR M.repos) b1 b2' na x.paths.length d1 x.repos.length d2 k nc Y ((hs1.keep hbw).keep hY) rfl ((hs2.keep hbw).keep hY) rfl hcap (hZ.keep hZY) x.thr rfl x.term bb hbb
        have HBB:=Lib.hid hbb
        have HXX:=Lib.hid hx
        have HBE:=Lib.hid hbw
        obtain ⟨l1,hl1'⟩:∃ l,x.paths.length = l:=⟨_,rfl⟩
        obtain ⟨l2,hl2'⟩:∃ l,x.repos.length = l:=⟨_,rfl⟩
        obtain ⟨xt,hxt⟩:∃ l,x.term = l:=⟨_,rfl⟩
        obtain ⟨xh,hxh⟩:∃ l,x.thr = l:=⟨_,rfl⟩
        rw [hl1'] at x0
        rw [hl2'] at x1
        rw [hxt] at x2
        rw [hxh] at x3
        rw [hl1',hl2',hxt,hxh] at HMR
        clear hbb hx hs1 hs2 hmx hcap hbw hl1' hl2' hxt hxh
        go_wp2_with fail
        go_cut [104] from 89 to 104 (fun s wx => s = .bool (!bb) ∧ Hid (Below wr.heap.size wr wx))
        case first =>
         go_region_held3 (fun w' => Below wr.heap.size wr w' ∧ w'.cell? ⟨w.heap.size,0,none⟩ = some (.slice a1 k c1) ∧ w'.cell? ⟨w.heap.size,1,none⟩ = some (.slice (some ⟨b,o,none⟩) m c2) ∧ w'.cell? ⟨b,o + i * 4,none⟩ = some (.slice b1 l1 d1) ∧ w'.cell? ⟨b,o + i * 4 + 1,none⟩ = some (.slice b2' l2 d2) ∧ w'.cell? ⟨b,o + i * 4 + 2,none⟩ = some (.bool xt) ∧ w'.cell? ⟨b,o + i * 4 + 3,none⟩ = some (.int .i64 xh))
          ((refine (fun h => ⟨h,cell_keep h q0,cell_keep h q1,cell_keep h x0,cell_keep h x1,cell_keep h x2,cell_keep h x3⟩:Below wr.heap.size wr _ → _) ?_; go_split_ands; (repeat (first | assumption | exact Below.refl _ _ | refine bel_drew ?_ | refine below_more ?_ (by assumption)))))
          (first
           | (go_at_call 31; refine (HNA.out _ (by (repeat (first | refine bel_drew ?_ | exact Below.refl _ _ | assumption | refine below_more ?_ (by assumption))))).mono ?_; rintro e wP ⟨hbP,na,nc,rfl,-,hsP⟩; have hAP:Below wr.heap.size wr wP:=below_more (by (repeat (first | refine bel_drew ?_ | exact Below.refl _ _ | assumption | refine below_more ?_ (by assumption)))) hbP; have hsQ:=hsP.imp (fun p u hu => hid_bare hu))
           | (go_at_call 37; refine (HMR.out _ _ _ _ (by assumption) (by (repeat (first | refine bel_drew ?_ | exact Below.refl _ _ | assumption | refine below_more ?_ (by assumption)))) (by (repeat (first | refine bel_drew ?_ | exact Below.refl _ _ | assumption | refine below_more ?_ (by assumption))))).mono ?_; rintro e wQ ⟨rfl,hbQ⟩; have hAQ:Below wr.heap.size wr wQ:=below_more (by (repeat (first | refine bel_drew ?_ | exact Below.refl _ _ | assumption | refine below_more ?_ (by assumption)))) hbQ))
         go_wp2_with fail
         go_simp
         go_meet
         case rel => exact ⟨rfl,(by (repeat (first | refine bel_drew ?_ | exact Below.refl _ _ | assumption | refine below_more ?_ (by assumption))):Below wr.heap.size wr _)⟩
        case rest =>
         obtain ⟨rfl,HBC⟩:=hcut
         have HBZ:=Lib.hid (below_more HB2.out HBC.out)
         clear q0 q1 qf x0 x1 x2 x3
         cases bb with
         | true =>
           have HT3:Hid ((M.maps.take (i + 1)).all (fun x => decide (wrongV x (namesR M.repos) = 0)) = true):=by
            show _ = _
            rw [List.take_add_one,HXX.out,List.all_append,HT2.out]
            simp [of_decide_eq_true HBB.out]
           clear HT2
           go_wp2_with fail
           first
            | exact ⟨⟨i + 1,by omega,by go_num,HT3,HBZ⟩,by simp [intOf]; omega⟩
            | (refine ⟨?_,by simp [intOf]; omega⟩; (repeat apply Exists.intro); exact ⟨⟨i + 1,by omega,by go_num,HT3,HBZ⟩,rfl⟩)
         | false =>
           have hno:M.maps.all (fun x => decide (wrongV x (namesR M.repos) = 0)) = false:=List.all_eq_false.2 ⟨x,List.mem_of_getElem? HXX.out,by rw [HBB.out]; decide⟩
           rw [HRW.out] at hno
           subst hno
           have HBF:=Lib.hid (below_more HBW.out HBZ.out)
           go_wp2_with fail
           go_ret
           exact ⟨rfl,HBF.out⟩
       ·have i1:¬ (i:Int) < (m:Int):=by omega
        have hall:=HT2.out
        rw [List.take_of_length_le (by rw [HK.out]; omega),HRW.out] at hall
        subst hall
        have HBE:=Lib.hid hbw
        clear hbw HT2
        go_wp2_with fail
        go_ret
        exact ⟨rfl,HBE.out⟩
end Go.Proofs.YtkphgjkflhjfjaaGreatDoor
