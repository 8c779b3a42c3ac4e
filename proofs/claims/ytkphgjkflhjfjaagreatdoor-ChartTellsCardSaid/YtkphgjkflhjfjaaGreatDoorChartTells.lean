/-
 The walk of ChartTells.
-/
import Derived.Test.YtkphgjkflhjfjaaGreatDoorRefM6
import Derived.Test.YtkphgjkflhjfjaaGreatDoorChartB2
import Derived.Test.YtkphgjkflhjfjaaGreatDoorSame
import Derived.Test.YtkphgjkflhjfjaaGreatDoorChartLb
import Derived.Deep.RegionHeldLaw
import Derived.Deep.DeepCutAuto
namespace Go.Proofs.YtkphgjkflhjfjaaGreatDoor
set_option maxRecDepth 100000
open Go.RowKit
theorem longAt_two {w:World} {b:Nat} {M K:MapP} {a1 a2 b1 b2:Option Addr} {n1 c1 n2 c2 m1 d1 m2 d2:Nat} (hk:BlkAt w b 25 #[.slice a1 n1 c1,.slice a2 n2 c2,.slice b1 m1 d1,.slice b2 m2 d2]) (h:MapAt w (.agg #[.slice a1 n1 c1,.slice a2 n2 c2]) M) (h2:MapAt w (.agg #[.slice b1 m1 d1,.slice b2 m2 d2]) K):LongAt w (.slice (some ⟨b,0,none⟩) 2 2) [M,K]:=by
 obtain ⟨x1,y1,x2,y2,e,hr,hm⟩:=h.parts
 simp only [Value.agg.injEq,Array.mk.injEq,List.cons.injEq,Value.slice.injEq,and_true] at e
 obtain ⟨⟨rfl,rfl,rfl⟩,rfl,rfl,rfl⟩:=e
 obtain ⟨x1,y1,x2,y2,e,hr2,hm2⟩:=h2.parts
 simp only [Value.agg.injEq,Array.mk.injEq,List.cons.injEq,Value.slice.injEq,and_true] at e
 obtain ⟨⟨rfl,rfl,rfl⟩,rfl,rfl,rfl⟩:=e
 refine ⟨by show 2 ≤ 1000; decide,b,0,2,rfl,fun i M' hi => ?_⟩
 match i,hi with
 | 0,hi =>
   obtain rfl:M = M':=by simpa using hi
   exact ⟨_,_,_,_,by rw [BlkAt.cell hk]; rfl,by rw [BlkAt.cell hk]; rfl,hr,hm⟩
 | 1,hi =>
   obtain rfl:K = M':=by simpa using hi
   exact ⟨_,_,_,_,by rw [BlkAt.cell hk]; rfl,by rw [BlkAt.cell hk]; rfl,hr2,hm2⟩
 | i + 2,hi => simp at hi
def zeroC:VC:=⟨0,0,⟨#[]⟩,none,0,0,none,0,0⟩
set_option maxHeartbeats 64000000 in
theorem chartTells_walk (M K:MapP) (v u:Value) (w:World) (h:MapAt w v M) (h2:MapAt w u K) (henv:NumEnv w) :
 Calls Tryz.prog 3 #[v,u] w fun e w' => e = .returned (.bool true) ∧ Below w.heap.size w w':=by
 have HMH:=Lib.hid h
 have HKH:=Lib.hid h2
 have HAW:=Lib.hid (fun W (hb:Below w.heap.size w W) => awake25_any W (henv.below hb))
 obtain ⟨a1,c1,a2,c2,rfl,-,-⟩:=h.parts
 obtain ⟨b1,d1,b2',d2,rfl,-,-⟩:=h2.parts
 obtain ⟨n1,hn1⟩:∃ n,M.repos.length = n:=⟨_,rfl⟩
 obtain ⟨n2,hn2⟩:∃ n,M.maps.length = n:=⟨_,rfl⟩
 obtain ⟨m1,hm1⟩:∃ n,K.repos.length = n:=⟨_,rfl⟩
 obtain ⟨m2,hm2⟩:∃ n,K.maps.length = n:=⟨_,rfl⟩
 rw [hn1,hn2] at HMH ⊢
 rw [hm1,hm2] at HKH ⊢
 obtain ⟨w2,hw2⟩:∃ y,y = (w.alloc (.cells #[.slice a1 n1 c1,.slice a2 n2 c2] 25)).alloc (.cells #[.slice b1 m1 d1,.slice b2' m2 d2] 25):=⟨_,rfl⟩
 obtain ⟨w3,hw3⟩:∃ y,y = w2.alloc (.cells #[.slice a1 n1 c1,.slice a2 n2 c2,.slice b1 m1 d1,.slice b2' m2 d2] 25):=⟨_,rfl⟩
 have hb2:Below w.heap.size w w2:=by rw [hw2]; exact bel_alloc (bel_alloc (Below.refl _ _) _) _
 have hb3:Below w2.heap.size w2 w3:=by rw [hw3]; exact bel_alloc (Below.refl _ _) _
 have e2:w2.heap.size = w.heap.size + 1 + 1:=by rw [hw2,size_al,size_al]
 have k1:BlkAt w2 w.heap.size 25 #[.slice a1 n1 c1,.slice a2 n2 c2]:=by rw [hw2]; exact (blkAt_new w _ _).alloc _
 have k2:BlkAt w2 (w.heap.size + 1) 25 #[.slice b1 m1 d1,.slice b2' m2 d2]:=by
  rw [hw2]
  have:=blkAt_new (w.alloc (.cells #[.slice a1 n1 c1,.slice a2 n2 c2] 25)) #[.slice b1 m1 d1,.slice b2' m2 d2] 25
  rwa [size_al] at this
 have k3:BlkAt w3 (w.heap.size + 1 + 1) 25 #[.slice a1 n1 c1,.slice a2 n2 c2,.slice b1 m1 d1,.slice b2' m2 d2]:=by rw [hw3,← e2]; exact blkAt_new w2 _ _
 have B3:=Lib.hid (below_more hb2 hb3)
 have K3:=Lib.hid (BlkAt.keep k1 hb3)
 have X3:=Lib.hid (BlkAt.keep k2 hb3)
 have W3:Hid (w3 = ((w.alloc (.cells #[.slice a1 n1 c1,.slice a2 n2 c2] 25)).alloc (.cells #[.slice b1 m1 d1,.slice b2' m2 d2] 25)).alloc (.cells #[.slice a1 n1 c1,.slice a2 n2 c2,.slice b1 m1 d1,.slice b2' m2 d2] 25)):=by show _ = _; rw [hw3,hw2]
 obtain ⟨lg,hlg⟩:∃ b,decide (20000 ≤ longLg 0 [M,K]) = b:=⟨_,rfl⟩
 have HL:=Lib.hid (longB [M,K] _ w3 (longAt_two k3 (HMH.out.keep B3.out) (HKH.out.keep B3.out)) lg hlg)
 have HLG:=Lib.hid hlg
 obtain ⟨p0,p1,pf⟩:=b2 k1
 obtain ⟨q0,q1,qf⟩:=b2 k2
 rw [hw2] at p0 p1 pf q0 q1 qf
 clear h h2 hn1 hn2 hm1 hm2 henv hlg hw2 hw3 hb2 hb3 e2 k1 k2 k3
 go_enter Tryz.func3,Tryz.ntmps3
 go_wp2_with fail
 rw [← W3.out]
 refine HL.out.mono ?_
 rintro e w4 ⟨rfl,hb4⟩
 have B4:=Lib.hid (below_more B3.out hb4)
 have K4:=Lib.hid (BlkAt.keep K3.out hb4)
 have X4:=Lib.hid (BlkAt.keep X3.out hb4)
 clear hb4 HL W3 K3 X3 p0 p1 pf q0 q1 qf
 obtain ⟨p0,p1,pf⟩:=b2 K4.out
 cases lg with
 | true =>
   go_wp2_with fail
   refine (HAW.out _ B4.out).mono ?_
   rintro e w6 ⟨rfl,hb6⟩
   have B6:=Lib.hid (below_more B4.out hb6)
   clear hb6
   go_wp2_with fail
   go_ret
   exact ⟨rfl,B6.out⟩
 | false =>
   have hsm:=longLg_short [M,K] 0 (by have:=of_decide_eq_false HLG.out; omega) M List.mem_cons_self
   have HVM:=Lib.hid (fun Y (hY:Below w.heap.size w Y) => cValue_any M _ Y (HMH.out.keep hY))
   have HVR:=Lib.hid (fun Y (hY:Below w.heap.size w Y) => value25_any M _ Y (HMH.out.keep hY) hsm)
   obtain ⟨mb,hmb⟩:∃ b,mayM M = b:=⟨_,rfl⟩
   have HCM0:=Lib.hid (fun Y (hY:Below w.heap.size w Y) => cMay_any M _ Y (HMH.out.keep hY))
   have HRM0:=Lib.hid (fun Y (hY:Below w.heap.size w Y) => may25_any M _ Y (HMH.out.keep hY) hsm)
   rw [hmb] at HVM HVR HCM0 HRM0
   clear HLG hsm hmb
   go_wp2_with fail
   refine (HVM.out _ B4.out).mono ?_
   rintro e w5 ⟨hb5,hv5⟩
   have B5:=Lib.hid (below_more B4.out hb5)
   have K5:=Lib.hid (BlkAt.keep K4.out hb5)
   have X5:=Lib.hid (BlkAt.keep X4.out hb5)
   clear p0 p1 pf hb5
   obtain ⟨p0,p1,pf⟩:=b2 K5.out
   have hy:∃ (y:VC) (er:Int) (V:JV),e = .returned (.tuple #[y.val,.int .i64 er]) ∧ ValAt w5 V y.val ∧ ((mb = false ∧ er = 3 ∧ V = .mk 0 0 ⟨#[]⟩ [] []) ∨ (mb = true ∧ er = 0 ∧ V = chartJ M)):=by
    rcases hv5 with ⟨e1,rfl⟩ | ⟨e1,y,rfl,hn⟩
    ·exact ⟨zeroC,3,_,rfl,valAt_leaf _ _ _ _ (by decide) (by decide) (by decide) (by decide) (by decide),Or.inl ⟨e1,rfl,rfl⟩⟩
    ·exact ⟨y,0,_,rfl,ValAt.imp (fun p u hu => hid_bare hu) hn,Or.inr ⟨e1,rfl,rfl⟩⟩
   obtain ⟨⟨yk,yn,yt,ya,yl,yc,yb,ym,ye⟩,er,VV,rfl,hvy,hcase⟩:=hy
   have HVY:=Lib.hid hvy
   have HCASE:=Lib.hid hcase
   clear hvy hcase hv5
   obtain ⟨w6,hw6⟩:∃ y,y = w5.alloc (.cells #[.int .u8 yk,.int .i64 yn,.string yt,.slice ya yl yc,.slice yb ym ye] 31):=⟨_,rfl⟩
   have hb6:Below w5.heap.size w5 w6:=by rw [hw6]; exact bel_alloc (Below.refl _ _) _
   have HY6:Hid (BlkAt w6 w5.heap.size 31 #[.int .u8 yk,.int .i64 yn,.string yt,.slice ya yl yc,.slice yb ym ye]):=by rw [hw6]; exact blkAt_new w5 _ _
   have B56:=Lib.hid hb6
   have B6:=Lib.hid (below_more B5.out hb6)
   have K6:=Lib.hid (BlkAt.keep K5.out hb6)
   have X6:=Lib.hid (BlkAt.keep X5.out hb6)
   have W6:=Lib.hid hw6
   clear hw6 hb6
   clear p0 p1 pf
   obtain ⟨p0,p1,pf⟩:=b2 K6.out
   rw [W6.out] at p0 p1 pf
   simp only [VC.val]
   go_wp2_with fail
   rw [← W6.out]
   obtain ⟨vb,hvb⟩:∃ z,w5.heap.size = z:=⟨_,rfl⟩
   rw [hvb] at HY6 ⊢
   refine (HVR.out _ B6.out).mono ?_
   rintro e w7 ⟨hb7,hv7⟩
   have hu:∃ y:VC,e = .returned (.tuple #[y.val,.int .i64 er]) ∧ ValAt w7 VV y.val:=by
    rcases HCASE.out with ⟨e0,rfl,rfl⟩ | ⟨e0,rfl,rfl⟩
    ·rcases hv7 with ⟨e1,rfl⟩ | ⟨e1,-⟩
     ·exact ⟨zeroC,rfl,valAt_leaf _ _ _ _ (by decide) (by decide) (by decide) (by decide) (by decide)⟩
     ·rw [e0] at e1; cases e1
    ·rcases hv7 with ⟨e1,-⟩ | ⟨e1,y,rfl,hn⟩
     ·rw [e0] at e1; cases e1
     ·exact ⟨y,rfl,ValAt.imp (fun p u hu => hid_bare hu) hn⟩
   obtain ⟨⟨zk,zn,zt,za,zl,zc,zb,zm,ze⟩,rfl,hvz⟩:=hu
   obtain ⟨w8,hw8⟩:∃ y,y = w7.alloc (.cells #[.int .u8 zk,.int .i64 zn,.string zt,.slice za zl zc,.slice zb zm ze] 31):=⟨_,rfl⟩
   have hb8:Below w7.heap.size w7 w8:=by rw [hw8]; exact bel_alloc (Below.refl _ _) _
   have HZ8:Hid (BlkAt w8 w7.heap.size 31 #[.int .u8 zk,.int .i64 zn,.string zt,.slice za zl zc,.slice zb zm ze]):=by rw [hw8]; exact blkAt_new w7 _ _
   have B68:=Lib.hid (below_more hb7 hb8)
   have B8:=Lib.hid (below_more B6.out B68.out)
   have W8:=Lib.hid hw8
   have HSV:Hid (∀ Y,Below w8.heap.size w8 Y → Calls Tryz.prog 9 #[.agg #[.int .u8 yk,.int .i64 yn,.string yt,.slice ya yl yc,.slice yb ym ye],.agg #[.int .u8 zk,.int .i64 zn,.string zt,.slice za zl zc,.slice zb zm ze]] Y fun e w' => e = .returned (.bool true) ∧ Below Y.heap.size Y w'):=fun Y hY => by
    have h:=Same_any VV VV _ _ Y (ValAt.imp (fun p u hu => cell_keep (below_more (below_more B56.out B68.out) hY) hu) HVY.out) (ValAt.imp (fun p u hu => cell_keep (below_more hb8 hY) hu) hvz)
    rw [sameV_self] at h
    exact h
   obtain ⟨sb,hsb⟩:∃ b,decide (M = K) = b:=⟨_,rfl⟩
   have HCM:=Lib.hid (fun Y (hY:Below w8.heap.size w8 Y) => HCM0.out Y (below_more B8.out hY))
   have HRM:=Lib.hid (fun Y (hY:Below w8.heap.size w8 Y) => HRM0.out Y (below_more B8.out hY))
   have HCS:Hid (∀ (Y:World) (x:Value) (r:Bool),Below w8.heap.size w8 Y → ((x = .agg #[.slice b1 m1 d1,.slice b2' m2 d2] ∧ r = sb) ∨ (x = .agg #[.slice a1 n1 c1,.slice a2 n2 c2] ∧ r = true)) → Calls Tryz.prog 12 #[.agg #[.slice a1 n1 c1,.slice a2 n2 c2],x] Y fun e w' => e = .returned (.bool r) ∧ Below Y.heap.size Y w'):=fun Y x r hY hx => by
    rcases hx with ⟨rfl,rfl⟩ | ⟨rfl,rfl⟩
    ·have h:=cSame_any M K _ _ Y (HMH.out.keep (below_more B8.out hY)) (HKH.out.keep (below_more B8.out hY))
     rw [hsb] at h
     exact h
    ·have h:=cSame_any M M _ _ Y (HMH.out.keep (below_more B8.out hY)) (HMH.out.keep (below_more B8.out hY))
     rw [decide_eq_true rfl] at h
     exact h
   have HRS:Hid (∀ (Y:World),Below w8.heap.size w8 Y → Calls Tryz.prog 13 #[.agg #[.slice a1 n1 c1,.slice a2 n2 c2],.agg #[.slice b1 m1 d1,.slice b2' m2 d2]] Y fun e w' => e = .returned (.bool sb) ∧ Below Y.heap.size Y w'):=fun Y hY => by
    have h:=same25_any M K _ _ Y (HMH.out.keep (below_more B8.out hY)) (HKH.out.keep (below_more B8.out hY))
    rw [hsb] at h
    exact h
   have HAX:=Lib.hid (fun Y (hY:Below w8.heap.size w8 Y) => HAW.out Y (below_more B8.out hY))
   clear p0 p1 pf
   obtain ⟨p0,p1,pf⟩:=b2 (BlkAt.keep K6.out B68.out)
   obtain ⟨q0,q1,qf⟩:=b2 (BlkAt.keep X6.out B68.out)
   obtain ⟨y0,y1,y2,y3,y4,yf⟩:=b5 (BlkAt.keep HY6.out B68.out)
   obtain ⟨s0,s1,s2,s3,s4,sf⟩:=b5 HZ8.out
   clear hv7 hvz hw8 hb7 hb8 hvb hsb HCASE HVY
   simp only [VC.val]
   rw [W8.out] at p0 p1 pf q0 q1 qf y0 y1 y2 y3 y4 yf s0 s1 s2 s3 s4 sf
   go_wp2_with fail
   rw [← W8.out] at p0 p1 pf q0 q1 qf y0 y1 y2 y3 y4 yf s0 s1 s2 s3 s4 sf
   rw [← W8.out]
   obtain ⟨ub,hub⟩:∃ z,w7.heap.size = z:=⟨_,rfl⟩
   rw [hub] at s0 s1 s2 s3 s4 sf ⊢
   clear hub
   cases sb <;> cases mb
   all_goals (
    go_region_held3 (fun w' => Below w8.heap.size w8 w' ∧ w'.cell? ⟨w.heap.size,0,none⟩ = some (.slice a1 n1 c1) ∧ w'.cell? ⟨w.heap.size,1,none⟩ = some (.slice a2 n2 c2) ∧ w'.cell? ⟨w.heap.size + 1,0,none⟩ = some (.slice b1 m1 d1) ∧ w'.cell? ⟨w.heap.size + 1,1,none⟩ = some (.slice b2' m2 d2) ∧ w'.cell? ⟨vb,0,none⟩ = some (.int .u8 yk) ∧ w'.cell? ⟨vb,1,none⟩ = some (.int .i64 yn) ∧ w'.cell? ⟨vb,2,none⟩ = some (.string yt) ∧ w'.cell? ⟨vb,3,none⟩ = some (.slice ya yl yc) ∧ w'.cell? ⟨vb,4,none⟩ = some (.slice yb ym ye) ∧ w'.cell? ⟨ub,0,none⟩ = some (.int .u8 zk) ∧ w'.cell? ⟨ub,1,none⟩ = some (.int .i64 zn) ∧ w'.cell? ⟨ub,2,none⟩ = some (.string zt) ∧ w'.cell? ⟨ub,3,none⟩ = some (.slice za zl zc) ∧ w'.cell? ⟨ub,4,none⟩ = some (.slice zb zm ze))
     ((refine (fun h => ⟨h,cell_keep h p0,cell_keep h p1,cell_keep h q0,cell_keep h q1,cell_keep h y0,cell_keep h y1,cell_keep h y2,cell_keep h y3,cell_keep h y4,cell_keep h s0,cell_keep h s1,cell_keep h s2,cell_keep h s3,cell_keep h s4⟩:Below w8.heap.size w8 _ → _) ?_; go_split_ands; (repeat (first | assumption | exact Below.refl _ _ | refine bel_drew ?_ | refine below_more ?_ (by assumption)))))
     (first
      | (go_at_call 9; refine (HSV.out _ (by (repeat (first | refine bel_drew ?_ | exact Below.refl _ _ | assumption | refine below_more ?_ (by assumption))))).mono ?_; rintro e wP ⟨rfl,hbP⟩; have hAP:Below w8.heap.size w8 wP:=below_more (by (repeat (first | refine bel_drew ?_ | exact Below.refl _ _ | assumption | refine below_more ?_ (by assumption)))) hbP)
      | (go_at_call 10; refine (HCM.out _ (by (repeat (first | refine bel_drew ?_ | exact Below.refl _ _ | assumption | refine below_more ?_ (by assumption))))).mono ?_; rintro e wQ ⟨rfl,hbQ⟩; have hAQ:Below w8.heap.size w8 wQ:=below_more (by (repeat (first | refine bel_drew ?_ | exact Below.refl _ _ | assumption | refine below_more ?_ (by assumption)))) hbQ)
      | (go_at_call 11; refine (HRM.out _ (by (repeat (first | refine bel_drew ?_ | exact Below.refl _ _ | assumption | refine below_more ?_ (by assumption))))).mono ?_; rintro e wR ⟨rfl,hbR⟩; have hAR:Below w8.heap.size w8 wR:=below_more (by (repeat (first | refine bel_drew ?_ | exact Below.refl _ _ | assumption | refine below_more ?_ (by assumption)))) hbR)
      | (go_at_call 12; refine (HCS.out _ _ _ (by (repeat (first | refine bel_drew ?_ | exact Below.refl _ _ | assumption | refine below_more ?_ (by assumption)))) (by first | exact Or.inl ⟨rfl,rfl⟩ | exact Or.inr ⟨rfl,rfl⟩)).mono ?_; rintro e wS ⟨rfl,hbS⟩; have hAS:Below w8.heap.size w8 wS:=below_more (by (repeat (first | refine bel_drew ?_ | exact Below.refl _ _ | assumption | refine below_more ?_ (by assumption)))) hbS)
      | (go_at_call 13; refine (HRS.out _ (by (repeat (first | refine bel_drew ?_ | exact Below.refl _ _ | assumption | refine below_more ?_ (by assumption))))).mono ?_; rintro e wT ⟨rfl,hbT⟩; have hAT:Below w8.heap.size w8 wT:=below_more (by (repeat (first | refine bel_drew ?_ | exact Below.refl _ _ | assumption | refine below_more ?_ (by assumption)))) hbT)
      | (go_at_call 6; refine (HAX.out _ (by (repeat (first | refine bel_drew ?_ | exact Below.refl _ _ | assumption | refine below_more ?_ (by assumption))))).mono ?_; rintro e wU ⟨rfl,hbU⟩; have hAU:Below w8.heap.size w8 wU:=below_more (by (repeat (first | refine bel_drew ?_ | exact Below.refl _ _ | assumption | refine below_more ?_ (by assumption)))) hbU))
    go_wp2_with fail
    go_ret
    exact ⟨rfl,below_more B8.out (by (repeat (first | refine bel_drew ?_ | exact Below.refl _ _ | assumption | refine below_more ?_ (by assumption))))⟩)
end Go.Proofs.YtkphgjkflhjfjaaGreatDoor
