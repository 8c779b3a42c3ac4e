/-
 The walk of ChartBack.
-/
import Derived.Test.YtaloajeldimpnaaGreatDoorChartBk
import Derived.Test.YtaloajeldimpnaaGreatDoorLiveRd
import Derived.Test.YtaloajeldimpnaaGreatDoorChartNa
import Derived.Test.YtaloajeldimpnaaGreatDoorSame
import Derived.Test.YtaloajeldimpnaaGreatDoorValRef3
namespace Go.Proofs.YtaloajeldimpnaaGreatDoor
set_option maxRecDepth 100000
open Go.RowKit
def OfTold (V:JV) (w:World) (e:Ending) (w':World):Prop :=
 Below w.heap.size w w' ∧ ((∃ er:Int,er ≠ 0 ∧ e = .returned (.tuple #[.agg #[.slice none 0 0,.slice none 0 0],.int .i64 er])) ∨
  ∃ (M:MapP) (a1:Option Addr) (n1 c1:Nat) (a2:Option Addr) (n2 c2:Nat),e = .returned (.tuple #[.agg #[.slice a1 n1 c1,.slice a2 n2 c2],.int .i64 0]) ∧ chartJ M = V ∧ mayM M = true ∧ MapAt w' (.agg #[.slice a1 n1 c1,.slice a2 n2 c2]) M)
theorem ofTold_any (V:JV) (x:VC) (w:World) (h:ValAt w V x.val) (hl:Live w (.slice x.b x.m x.e) V.items) (hi:ItemsAt w (.slice x.b x.m x.e) V.items) :
 Calls Tryz.prog 10 #[x.val] w (OfTold V w):=by
 refine (cOf_some V x w h hl hi).mono fun e w' ⟨R,hR,hp⟩ => ?_
 have hb:Below w.heap.size w w':=hp.1
 cases R with
 | bad er =>
   obtain ⟨-,he,hne⟩:=hp
   exact ⟨hb,Or.inl ⟨er,hne,he⟩⟩
 | ok M =>
   rcases hR with hR | ⟨er,hR⟩
   ·obtain ⟨hj,hm⟩:=value_back hR.symm
    obtain ⟨-,k2,k3,-,-,-⟩:=mayM_parts hm
    obtain ⟨-,a1,c1,a2,c2,he,hat⟩:=mapPost_at hp (by omega) (by omega)
    exact ⟨hb,Or.inr ⟨M,a1,_,c1,a2,_,c2,he,hj,hm,hat⟩⟩
   ·cases hR
set_option maxHeartbeats 16000000 in
theorem chartBack_walk (M:MapP) (V:JV) (v u:Value) (w:World) (h:MapAt w v M) (hV:ValAt w V u) (hlv:∀ c0 c1 c2 c3 vi,u = .agg #[c0,c1,c2,c3,vi] → Live w vi V.items) (henv:NumEnv w) :
 Calls Tryz.prog 3 #[v,u] w fun e w' => e = .returned (.bool true) ∧ Below w.heap.size w w':=by
 have HAW:=Lib.hid (fun W (hb:Below w.heap.size w W) => awake25_any W (henv.below hb))
 have HMH:=Lib.hid h
 obtain ⟨a1,c1,a2,c2,rfl,-,-⟩:=h.parts
 obtain ⟨n1,hn1⟩:∃ n,M.repos.length = n:=⟨_,rfl⟩
 obtain ⟨n2,hn2⟩:∃ n,M.maps.length = n:=⟨_,rfl⟩
 rw [hn1,hn2] at HMH ⊢
 obtain ⟨vn,vi,rfl,k0,k1,l0,l1,ht,hns,his⟩:=valAt_iff.1 hV
 obtain ⟨an,ncap,rfl,-,-,-⟩:=hns.parts
 obtain ⟨ai,icap,rfl,-,-⟩:=his.parts
 have HLV:=Lib.hid (hlv _ _ _ _ _ rfl)
 have HVV:=Lib.hid hV
 have HIS:=Lib.hid his
 obtain ⟨nl,hnl⟩:∃ n,V.names.length = n:=⟨_,rfl⟩
 obtain ⟨il,hil⟩:∃ n,V.items.length = n:=⟨_,rfl⟩
 obtain ⟨vk,hvk⟩:∃ n,V.k = n:=⟨_,rfl⟩
 obtain ⟨vm,hvm⟩:∃ n,V.n = n:=⟨_,rfl⟩
 obtain ⟨vt,hvt⟩:∃ n,V.t = n:=⟨_,rfl⟩
 rw [hnl,hil,hvk,hvm,hvt] at HVV ⊢
 rw [hil] at HLV HIS
 obtain ⟨w2,hw2⟩:∃ y,y = (w.alloc (.cells #[.slice a1 n1 c1,.slice a2 n2 c2] 25)).alloc (.cells #[.int .u8 vk,.int .i64 vm,.string vt,.slice an nl ncap,.slice ai il icap] 29):=⟨_,rfl⟩
 obtain ⟨w3,hw3⟩:∃ y,y = w2.alloc (.cells #[.slice a1 n1 c1,.slice a2 n2 c2] 25):=⟨_,rfl⟩
 have hb2:Below w.heap.size w w2:=by rw [hw2]; exact bel_alloc (bel_alloc (Below.refl _ _) _) _
 have hb3:Below w2.heap.size w2 w3:=by rw [hw3]; exact bel_alloc (Below.refl _ _) _
 have s2:w2.heap.size = w.heap.size + 2:=by rw [hw2,size_al,size_al]
 have km:BlkAt w2 w.heap.size 25 #[.slice a1 n1 c1,.slice a2 n2 c2]:=by rw [hw2]; exact (blkAt_new w _ _).alloc _
 have kv:BlkAt w2 (w.heap.size + 1) 29 #[.int .u8 vk,.int .i64 vm,.string vt,.slice an nl ncap,.slice ai il icap]:=by
  rw [hw2]
  have:=blkAt_new (w.alloc (.cells #[.slice a1 n1 c1,.slice a2 n2 c2] 25)) #[.int .u8 vk,.int .i64 vm,.string vt,.slice an nl ncap,.slice ai il icap] 29
  rwa [size_al] at this
 have ks:BlkAt w3 w2.heap.size 25 #[.slice a1 n1 c1,.slice a2 n2 c2]:=by rw [hw3]; exact blkAt_new w2 _ _
 have KM3:=Lib.hid (BlkAt.keep km hb3)
 have KV3:=Lib.hid (BlkAt.keep kv hb3)
 have B3:=Lib.hid (below_more hb2 hb3)
 obtain ⟨lg,hlg⟩:∃ b,decide (20000 ≤ longLg 0 [M]) = b:=⟨_,rfl⟩
 have HL:=Lib.hid (longB [M] _ w3 (longAt_one ks (HMH.out.keep (below_more hb2 hb3))) lg hlg)
 rw [s2] at HL
 have W3:Hid (w3 = ((w.alloc (.cells #[.slice a1 n1 c1,.slice a2 n2 c2] 25)).alloc (.cells #[.int .u8 vk,.int .i64 vm,.string vt,.slice an nl ncap,.slice ai il icap] 29)).alloc (.cells #[.slice a1 n1 c1,.slice a2 n2 c2] 25)):=by show _ = _; rw [hw3,hw2]
 obtain ⟨m0,m1,mf⟩:=b2c km
 rw [hw2] at m0 m1 mf
 have HJ:=Lib.hid hnl
 clear h hV hlv henv hns his hw2 hw3 hb2 hb3 s2 km kv ks k0 k1 l0 l1 ht hn1 hn2 hnl hil hvk hvm hvt hlg
 go_enter Tryz.func3,Tryz.ntmps3
 go_wp2_with fail
 rw [← W3.out]
 refine HL.out.mono ?_
 rintro e w4 ⟨rfl,hb4⟩
 have B4:=Lib.hid (below_more B3.out hb4)
 have KM4:=Lib.hid (BlkAt.keep KM3.out hb4)
 have KV4:=Lib.hid (BlkAt.keep KV3.out hb4)
 clear hb4 HL W3 B3 KM3 KV3 m0 m1 mf
 cases lg with
 | true =>
   go_wp2_with fail
   refine (HAW.out _ B4.out).mono ?_
   rintro e w5 ⟨rfl,hb5⟩
   have B5:=Lib.hid (below_more B4.out hb5)
   clear hb5
   go_wp2_with fail
   go_ret
   exact ⟨rfl,B5.out⟩
 | false =>
   obtain ⟨w5,hw5⟩:∃ y,y = w4.alloc (.cells #[.int .u8 vk,.int .i64 vm,.string vt,.slice an nl ncap,.slice ai il icap] 29):=⟨_,rfl⟩
   have hb5:Below w4.heap.size w4 w5:=by rw [hw5]; exact bel_alloc (Below.refl _ _) _
   have hIt:ItemsAt w5 (.slice (some ⟨w4.heap.size,0,none⟩) 1 1) [V]:=by
    have q:∀ i,w5.cell? ⟨w4.heap.size,i,none⟩ = (#[.int .u8 vk,.int .i64 vm,.string vt,.slice an nl ncap,.slice ai il icap]:Array Value)[i]?:=fun i => by rw [hw5,cell_al_eq _ _ _ _ _ rfl]
    exact itemsAt_len (l:=[V]) rfl (rowAt_put (by rw [q]; rfl) (by rw [q]; rfl) (by rw [q]; rfl) (by rw [q]; rfl) (by rw [q]; rfl) (HVV.out.keep (below_more B4.out hb5)) (rowAt_nil _ _ _))
   have HL2:=Lib.hid (long_any [V] _ _ hIt)
   have B5:=Lib.hid (below_more B4.out hb5)
   have KM5:=Lib.hid (BlkAt.keep KM4.out hb5)
   have KV5:=Lib.hid (BlkAt.keep KV4.out hb5)
   have W5:=Lib.hid hw5
   obtain ⟨v0,v1,v2,v3,v4,vf⟩:=b5t KV4.out
   clear hw5 hb5 hIt KM4 KV4 B4
   go_wp2_with fail
   rw [← W5.out]
   refine HL2.out.mono ?_
   rintro e w5' ⟨r,rfl,-,hEq⟩
   obtain rfl:=hEq
   clear HL2 W5 v0 v1 v2 v3 v4 vf
   cases r with
   | true =>
     go_wp2_with fail
     refine (HAW.out _ B5.out).mono ?_
     rintro e w6 ⟨rfl,hb6⟩
     have B6:=Lib.hid (below_more B5.out hb6)
     clear hb6
     go_wp2_with fail
     go_ret
     exact ⟨rfl,B6.out⟩
   | false =>
     go_wp2_with fail
     refine (HAW.out _ B5.out).mono ?_
     rintro e w6 ⟨rfl,hb6⟩
     have B6:=Lib.hid (below_more B5.out hb6)
     have KM6:=Lib.hid (BlkAt.keep KM5.out hb6)
     have KV6:=Lib.hid (BlkAt.keep KV5.out hb6)
     clear hb6 B5 KM5 KV5 HAW
     obtain ⟨m0,m1,mf⟩:=b2c KM6.out
     go_wp2_with fail
     refine (cValue_any M _ _ (HMH.out.keep B6.out)).mono ?_
     rintro e w7 ⟨hb7,hcase⟩
     have B7:=Lib.hid (below_more B6.out hb7)
     have KM7:=Lib.hid (BlkAt.keep KM6.out hb7)
     have KV7:=Lib.hid (BlkAt.keep KV6.out hb7)
     clear B6 KM6 KV6 hb7 m0 m1 mf
     have HCM:=Lib.hid (fun Y (hb:Below w.heap.size w Y) => cMay_any M _ Y (HMH.out.keep hb))
     have HOT:=Lib.hid (fun Y (hb:Below w.heap.size w Y) => ofTold_any V ⟨vk,vm,vt,an,nl,ncap,ai,il,icap⟩ Y (HVV.out.keep hb) (Live.keep HIS.out HLV.out hb) (ItemsAt.imp (fun p u => cell_keep hb) HIS.out))
     simp only [VC.val] at HOT
     rcases hcase with ⟨hm,rfl⟩ | ⟨hm,⟨yk,yn,yt,ya,yl,yc,yb,ym,ye⟩,rfl,hy⟩
     case' inl =>
      rw [hm] at HCM
      have B8:Hid (Below w.heap.size w (w7.alloc (.cells #[.int .u8 0,.int .i64 0,.string ⟨#[]⟩,.slice none 0 0,.slice none 0 0] 29))):=bel_alloc B7.out _
      have KM8:Hid (BlkAt (w7.alloc (.cells #[.int .u8 0,.int .i64 0,.string ⟨#[]⟩,.slice none 0 0,.slice none 0 0] 29)) w.heap.size 25 #[.slice a1 n1 c1,.slice a2 n2 c2]):=KM7.out.alloc _
      have KV8:Hid (BlkAt (w7.alloc (.cells #[.int .u8 0,.int .i64 0,.string ⟨#[]⟩,.slice none 0 0,.slice none 0 0] 29)) (w.heap.size + 1) 29 #[.int .u8 vk,.int .i64 vm,.string vt,.slice an nl ncap,.slice ai il icap]):=KV7.out.alloc _
      obtain ⟨m0,m1,mf⟩:=b2c KM8.out
      clear B7 KM7 KV7 hm
      go_wp2_with fail
      generalize (w7.alloc (.cells #[.int .u8 0,.int .i64 0,.string ⟨#[]⟩,.slice none 0 0,.slice none 0 0] 29)) = w8 at B8 KM8 KV8 ⊢
      refine (HCM.out _ B8.out).mono ?_
      rintro e w12 ⟨rfl,hb9⟩
      have B12:=Lib.hid (below_more B8.out hb9)
      have KV12:=Lib.hid (BlkAt.keep KV8.out hb9)
      obtain ⟨v0,v1,v2,v3,v4,vf⟩:=b5t KV12.out
      clear B8 KM8 KV8 hb9 HCM m0 m1 mf
      go_wp2_with fail
     case' inr =>
      have HMB:=Lib.hid hm
      rw [hm] at HCM
      simp only [VC.val]
      have B8:Hid (Below w.heap.size w (w7.alloc (.cells #[.int .u8 yk,.int .i64 yn,.string yt,.slice ya yl yc,.slice yb ym ye] 29))):=bel_alloc B7.out _
      have KM8:Hid (BlkAt (w7.alloc (.cells #[.int .u8 yk,.int .i64 yn,.string yt,.slice ya yl yc,.slice yb ym ye] 29)) w.heap.size 25 #[.slice a1 n1 c1,.slice a2 n2 c2]):=KM7.out.alloc _
      have KV8:Hid (BlkAt (w7.alloc (.cells #[.int .u8 yk,.int .i64 yn,.string yt,.slice ya yl yc,.slice yb ym ye] 29)) (w.heap.size + 1) 29 #[.int .u8 vk,.int .i64 vm,.string vt,.slice an nl ncap,.slice ai il icap]):=KV7.out.alloc _
      have KY8:Hid (BlkAt (w7.alloc (.cells #[.int .u8 yk,.int .i64 yn,.string yt,.slice ya yl yc,.slice yb ym ye] 29)) w7.heap.size 29 #[.int .u8 yk,.int .i64 yn,.string yt,.slice ya yl yc,.slice yb ym ye]):=blkAt_new w7 _ _
      have HY8:Hid (ValAt (pureW (w7.alloc (.cells #[.int .u8 yk,.int .i64 yn,.string yt,.slice ya yl yc,.slice yb ym ye] 29))) (chartJ M) (VC.val ⟨yk,yn,yt,ya,yl,yc,yb,ym,ye⟩)):=valOf_pure hy (bel_alloc (Below.refl _ _) _)
      obtain ⟨m0,m1,mf⟩:=b2c KM8.out
      clear B7 KM7 KV7 hm hy
      go_wp2_with fail
      generalize (w7.alloc (.cells #[.int .u8 yk,.int .i64 yn,.string yt,.slice ya yl yc,.slice yb ym ye] 29)) = w8 at B8 KM8 KV8 KY8 HY8 ⊢
      generalize w7.heap.size = by8 at KY8 ⊢
      refine (HCM.out _ B8.out).mono ?_
      rintro e w9 ⟨rfl,hb9⟩
      have B9:=Lib.hid (below_more B8.out hb9)
      have KM9:=Lib.hid (BlkAt.keep KM8.out hb9)
      have KV9:=Lib.hid (BlkAt.keep KV8.out hb9)
      have KY9:=Lib.hid (BlkAt.keep KY8.out hb9)
      have HY9:=Lib.hid (HY8.out.imp (pure_keep hb9))
      obtain ⟨y0,y1,y2,y3,y4,yf⟩:=b5t KY9.out
      have HOF:=Lib.hid (cOf_any (chartJ M) ⟨yk,yn,yt,ya,yl,yc,yb,ym,ye⟩ w9 HY9.out)
      rw [chart_back HMB.out] at HOF
      simp only [VC.val] at HOF
      clear B8 KM8 KV8 KY8 HY8 hb9 HCM m0 m1 mf
      go_wp2_with fail
      refine HOF.out.mono ?_
      rintro e w10 hp10
      obtain ⟨-,p2,p3,-,-,-⟩:=mayM_parts HMB.out
      obtain ⟨hb10,b1,d1,b2,d2,rfl,hn10⟩:=mapPost_at hp10 (by omega) (by omega)
      have B10:=Lib.hid (bel_alloc (below_more B9.out hb10) (.cells #[.slice b1 M.repos.length d1,.slice b2 M.maps.length d2] 25))
      have KM10:=Lib.hid ((BlkAt.keep KM9.out hb10).alloc (.cells #[.slice b1 M.repos.length d1,.slice b2 M.maps.length d2] 25))
      have KV10:=Lib.hid ((BlkAt.keep KV9.out hb10).alloc (.cells #[.slice b1 M.repos.length d1,.slice b2 M.maps.length d2] 25))
      have KY10:=Lib.hid ((BlkAt.keep KY9.out hb10).alloc (.cells #[.slice b1 M.repos.length d1,.slice b2 M.maps.length d2] 25))
      have KN10:Hid (BlkAt (w10.alloc (.cells #[.slice b1 M.repos.length d1,.slice b2 M.maps.length d2] 25)) w10.heap.size 25 #[.slice b1 M.repos.length d1,.slice b2 M.maps.length d2]):=blkAt_new w10 _ _
      have HY10:=Lib.hid ((HY9.out.imp (pure_keep hb10)).imp (pure_keep (bel_alloc (Below.refl _ _) (.cells #[.slice b1 M.repos.length d1,.slice b2 M.maps.length d2] 25))))
      have HN10:=Lib.hid (hn10.keep (bel_alloc (Below.refl _ _) (.cells #[.slice b1 M.repos.length d1,.slice b2 M.maps.length d2] 25)))
      obtain ⟨m0,m1,mf⟩:=b2c KM10.out
      obtain ⟨g0,g1,gf⟩:=b2c KN10.out
      clear HOF hp10 hb10 hn10 B9 KM9 KV9 KY9 HY9 p2 p3 y0 y1 y2 y3 y4 yf
      go_wp2_with fail
      generalize w10.alloc (.cells #[.slice b1 M.repos.length d1,.slice b2 M.maps.length d2] 25) = w11 at B10 KM10 KV10 KY10 KN10 HY10 HN10 ⊢
      have HS:=Lib.hid (same25_any M M _ _ w11 HN10.out (HMH.out.keep B10.out))
      simp only [decide_true] at HS
      refine HS.out.mono ?_
      rintro e w13 ⟨rfl,hb13⟩
      have B13:=Lib.hid (below_more B10.out hb13)
      have KV13:=Lib.hid (BlkAt.keep KV10.out hb13)
      have KY13:=Lib.hid (BlkAt.keep KY10.out hb13)
      have HY13:=Lib.hid (HY10.out.imp (pure_keep hb13))
      have HC:=Lib.hid (cSame_any M M _ _ w13 (HN10.out.keep hb13) (HMH.out.keep B13.out))
      simp only [decide_true] at HC
      obtain ⟨m0,m1,mf⟩:=b2c (BlkAt.keep KM10.out hb13)
      obtain ⟨g0,g1,gf⟩:=b2c (BlkAt.keep KN10.out hb13)
      clear HS B10 KV10 KY10 HY10 HN10 KM10 KN10 hb13
      go_wp2_with fail
      refine HC.out.mono ?_
      rintro e w14 ⟨rfl,hb14⟩
      have B14:=Lib.hid (below_more B13.out hb14)
      have KV14:=Lib.hid (BlkAt.keep KV13.out hb14)
      have HY14:=Lib.hid ((HY13.out.imp (pure_keep hb14)).imp fun p u hu => (pure_cell hu).2)
      have HRM:=Lib.hid (refMay_any (chartJ M) _ w14 HY14.out (wt_may (chartJ_may HMB.out)) true (Lib.hid (chartJ_may HMB.out)))
      simp only [VC.val] at HRM
      obtain ⟨y0,y1,y2,y3,y4,yf⟩:=b5t (BlkAt.keep KY13.out hb14)
      clear HC B13 KV13 KY13 HY13 HY14 hb14 m0 m1 mf g0 g1 gf
      go_wp2_with fail
      refine HRM.out.mono ?_
      rintro e w12 ⟨rfl,hb12⟩
      have B12:=Lib.hid (below_more B14.out hb12)
      have KV12:=Lib.hid (BlkAt.keep KV14.out hb12)
      obtain ⟨v0,v1,v2,v3,v4,vf⟩:=b5t KV12.out
      clear HRM B14 KV14 hb12 y0 y1 y2 y3 y4 yf
      go_wp2_with fail
     all_goals
      refine (HOT.out _ B12.out).mono ?_
      rintro e w15 ⟨hb15,hcase⟩
      have B15:=Lib.hid (below_more B12.out hb15)
      have KV15:=Lib.hid (BlkAt.keep KV12.out hb15)
      clear B12 KV12 hb15 HOT v0 v1 v2 v3 v4 vf
      rcases hcase with ⟨er,hne,rfl⟩ | ⟨M2,b1,q1,d1,b2,q2,d2,rfl,hj,hm2,hat⟩
      ·have hne':(er != 0) = true:=bne_iff_ne.2 hne
       have B16:=Lib.hid (bel_alloc B15.out (.cells #[.slice none 0 0,.slice none 0 0] 25))
       have KN:BlkAt (w15.alloc (.cells #[.slice none 0 0,.slice none 0 0] 25)) w15.heap.size 25 #[.slice none 0 0,.slice none 0 0]:=blkAt_new w15 _ _
       obtain ⟨g0,g1,gf⟩:=b2c KN
       have HS:=Lib.hid (fun Y => same25_any ⟨[],[]⟩ ⟨[],[]⟩ _ _ Y (emptyMap_at Y) (emptyMap_at Y))
       simp only [decide_true] at HS
       clear B15 KV15 KN
       go_wp2_with fail
       refine (HS.out _).mono ?_
       rintro e w17 ⟨rfl,hb17⟩
       have B17:=Lib.hid (below_more B16.out hb17)
       clear hb17 HS
       go_wp2_with fail
       go_ret
       exact ⟨rfl,B17.out⟩
      ·have HJ2:=Lib.hid hj
       have HM2:=Lib.hid hm2
       have B16:=Lib.hid (bel_alloc B15.out (.cells #[.slice b1 q1 d1,.slice b2 q2 d2] 25))
       have KV16:=Lib.hid (KV15.out.alloc (.cells #[.slice b1 q1 d1,.slice b2 q2 d2] 25))
       have KN16:Hid (BlkAt (w15.alloc (.cells #[.slice b1 q1 d1,.slice b2 q2 d2] 25)) w15.heap.size 25 #[.slice b1 q1 d1,.slice b2 q2 d2]):=blkAt_new w15 _ _
       have HN16:=Lib.hid (hat.keep (bel_alloc (Below.refl _ _) (.cells #[.slice b1 q1 d1,.slice b2 q2 d2] 25)))
       obtain ⟨g0,g1,gf⟩:=b2c KN16.out
       clear B15 KV15 hat hj hm2
       go_wp2_with fail
       generalize w15.alloc (.cells #[.slice b1 q1 d1,.slice b2 q2 d2] 25) = w16 at B16 KV16 KN16 HN16 ⊢
       generalize w15.heap.size = bn at KN16 ⊢
       refine (cValue_any M2 _ w16 HN16.out).mono ?_
       rintro e w17 ⟨hb17,hcase⟩
       rcases hcase with ⟨hm,-⟩ | ⟨-,⟨zk,zn,zt,za,zl,zc,zb,zm,ze⟩,rfl,hz⟩
       ·rw [HM2.out] at hm
        cases hm
       ·simp only [VC.val]
        have B18:=Lib.hid (bel_alloc (below_more B16.out hb17) (.cells #[.int .u8 zk,.int .i64 zn,.string zt,.slice za zl zc,.slice zb zm ze] 29))
        have KV18:=Lib.hid ((BlkAt.keep KV16.out hb17).alloc (.cells #[.int .u8 zk,.int .i64 zn,.string zt,.slice za zl zc,.slice zb zm ze] 29))
        have KN18:=Lib.hid ((BlkAt.keep KN16.out hb17).alloc (.cells #[.int .u8 zk,.int .i64 zn,.string zt,.slice za zl zc,.slice zb zm ze] 29))
        have HN18:=Lib.hid ((HN16.out.keep hb17).keep (bel_alloc (Below.refl _ _) (.cells #[.int .u8 zk,.int .i64 zn,.string zt,.slice za zl zc,.slice zb zm ze] 29)))
        have KZ18:Hid (BlkAt (w17.alloc (.cells #[.int .u8 zk,.int .i64 zn,.string zt,.slice za zl zc,.slice zb zm ze] 29)) w17.heap.size 29 #[.int .u8 zk,.int .i64 zn,.string zt,.slice za zl zc,.slice zb zm ze]):=blkAt_new w17 _ _
        have HZ18:Hid (ValAt (w17.alloc (.cells #[.int .u8 zk,.int .i64 zn,.string zt,.slice za zl zc,.slice zb zm ze] 29)) (chartJ M2) (VC.val ⟨zk,zn,zt,za,zl,zc,zb,zm,ze⟩)):=(valOf_pure hz (bel_alloc (Below.refl _ _) _)).imp fun p u hu => (pure_cell hu).2
        obtain ⟨g0,g1,gf⟩:=b2c KN18.out
        clear B16 KV16 KN16 HN16 hb17 hz
        go_wp2_with fail
        generalize w17.alloc (.cells #[.int .u8 zk,.int .i64 zn,.string zt,.slice za zl zc,.slice zb zm ze] 29) = w18 at B18 KV18 KN18 HN18 KZ18 HZ18 ⊢
        generalize w17.heap.size = bz at KZ18 ⊢
        have HCM2:=Lib.hid (cMay_any M2 _ w18 HN18.out)
        rw [HM2.out] at HCM2
        refine HCM2.out.mono ?_
        rintro e w19 ⟨rfl,hb19⟩
        have B19:=Lib.hid (below_more B18.out hb19)
        have HSV:=Lib.hid (Same_any (chartJ M2) V _ _ w19 (HZ18.out.keep hb19) (HVV.out.keep B19.out))
        rw [HJ2.out,sameV_self] at HSV
        simp only [VC.val] at HSV
        obtain ⟨v0,v1,v2,v3,v4,vf⟩:=b5t (BlkAt.keep KV18.out hb19)
        obtain ⟨z0,z1,z2,z3,z4,zf⟩:=b5t (BlkAt.keep KZ18.out hb19)
        clear HCM2 B18 KV18 KN18 HN18 KZ18 HZ18 hb19 g0 g1 gf
        go_wp2_with fail
        refine HSV.out.mono ?_
        rintro e w20 ⟨rfl,hb20⟩
        have B20:=Lib.hid (below_more B19.out hb20)
        clear hb20
        go_wp2_with fail
        go_ret
        exact ⟨rfl,B20.out⟩
end Go.Proofs.YtaloajeldimpnaaGreatDoor
