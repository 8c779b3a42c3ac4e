/-
  read.tokens.next, walked.
  The state of the reading: where it stands; the next mark; the error of a mark; what is expected; a comma or the end.
  read.values.value: what is no list and no object; what may not be.
  read.values.list, over the contract of read.values.value.
-/
import Derived.Test.YtchinankclckjaaGreatDoorReadNext
import Derived.Deep.DrawnRows
import Derived.Test.YtchinankclckjaaGreatDoorChartA
import Derived.Test.YtchinankclckjaaGreatDoorReadP
namespace Go.Proofs.YtchinankclckjaaGreatDoor
set_option maxHeartbeats 8000000
section
set_option maxRecDepth 100000
open Go.RowKit
attribute [local go_sem ↓] Go.wp_at_zero Go.wp_at_succ
theorem blanks_idem (l:List UInt8):blanks (l.drop (blanks l))=0:=by
 match h:l.drop (blanks l) with
 | []=>rfl
 | c :: r=>exact blanks_zero r (blanks_head l c r h)
theorem nextM_skip (s:List UInt8) (z:Nat):nextM s (z+blanks (s.drop z))=nextM s z:=by
 unfold nextM tokB
 rw [← List.drop_drop,blanks_idem,List.drop_zero,Nat.add_zero]
theorem grown_Below {B w w':World} {r:Nat} (hB:Below B.heap.size B w) (hr:B.heap.size≤r) (hg:w.grownBy w' (some r)):Below B.heap.size B w':=by
 refine ⟨hg.os.trans hB.os,hg.tape.trans hB.tape,hg.output.trans hB.output,Nat.le_trans hB.size hg.size,fun k hk=>?_⟩
 rw [hg.block k (Nat.lt_of_lt_of_le hk hB.size) (fun e=>?_)]
 ·exact hB.block k hk
 ·have:k=r:=by simpa using e
  omega
theorem rd_stored {W:World} {r:Nat} {s:ByteArray} {q k0 x0 z0 n0:Int} {t0:ByteArray} {z c d:Int} (h:RdAt W r s q k0 x0 z0 n0 t0 z c d) (k x y n:Int) (t:ByteArray) :
 RdAt ((((((W.setCell ⟨r,2,none⟩ (.int .u8 k)).setCell ⟨r,3,none⟩ (.int .i64 x)).setCell ⟨r,4,none⟩ (.int .i64 y)).setCell ⟨r,5,none⟩ (.int .i64 n)).setCell ⟨r,6,none⟩ (.string t)).setCell ⟨r,7,none⟩ (.int .i64 y)) r s q k x y n t y c d :=
 (((((BlkAt.set h 2 (.int .u8 k)).set 3 (.int .i64 x)).set 4 (.int .i64 y)).set 5 (.int .i64 n)).set 6 (.string t)).set 7 (.int .i64 y)
theorem RdAt.drew {W:World} {r:Nat} {s:ByteArray} {q k0 x0 z0 n0:Int} {t0:ByteArray} {z c d:Int} (h:RdAt W r s q k0 x0 z0 n0 t0 z c d):RdAt W.drew r s q k0 x0 z0 n0 t0 z c d:=h
theorem grown_stored {w W:World} {r:Nat} (h:w.grownBy W (some r)) (k x y n:Int) (t:ByteArray) :
 w.grownBy ((((((W.setCell ⟨r,2,none⟩ (.int .u8 k)).setCell ⟨r,3,none⟩ (.int .i64 x)).setCell ⟨r,4,none⟩ (.int .i64 y)).setCell ⟨r,5,none⟩ (.int .i64 n)).setCell ⟨r,6,none⟩ (.string t)).setCell ⟨r,7,none⟩ (.int .i64 y)) (some r) :=
 grown_set (grown_set (grown_set (grown_set (grown_set (grown_set h _ _) _ _) _ _) _ _) _ _) _ _
def NextPost (s:ByteArray) (r z zz:Nat) (k0 x0 z0 n0:Int) (t0:ByteArray) (c d k x y n:Int) (t:ByteArray) (er:Int) (w:World) (e:Ending) (w':World):Prop :=
 e=.returned (.int .i64 er)∧w.grownBy w' (some r)∧(er≠0→RdAt w' r s zz k0 x0 z0 n0 t0 z c d)∧(er=0→RdAt w' r s zz k x y n t y c d)
theorem rdNext_any (s:ByteArray) (r z:Nat) (w B:World) (hs:s.size≤65536) (hz:z≤s.size) (hE:NumEnv B) (hBw:Below B.heap.size B w) (hr:B.heap.size≤r) (pl k0 x0 z0 n0:Int) (t0:ByteArray) (c d:Int) (hR:RdAt w r s pl k0 x0 z0 n0 t0 z c d)
 (k x y n:Int) (t:ByteArray) (er:Int) (hR2:Hid (resV (nextM s.data.toList z)=(k,x,y,n,t,er))) (zz:Nat) (hzz:Hid (z+blanks (s.data.toList.drop z)=zz)) :
 Calls Tryz.prog 82 #[.pointer (some ⟨r,0,none⟩)] w (NextPost s r z zz k0 x0 z0 n0 t0 c d k x y n t er w):=by
 have hrw:=hR.lt
 have HR:=Lib.hid hR
 obtain ⟨c0,c1,c2,c3,c4,c5,c6,c7,-,-⟩:=hR.cells
 have hf:=hR.frees 1
 have HNB:=Lib.hid hE
 clear hR
 go_enter Tryz.func82,Tryz.ntmps82
 go_wp2_with fail
 have HR1:Hid (RdAt (w.setCell ⟨r,1,none⟩ (.int .i64 z)) r s z k0 x0 z0 n0 t0 z c d):=BlkAt.set HR.out 1 _
 have hg1:w.grownBy (w.setCell ⟨r,1,none⟩ (.int .i64 z)) (some r):=grown_set (World.grownBy.refl _ _) _ _
 generalize w.setCell ⟨r,1,none⟩ (.int .i64 z)=w1 at HR1 hg1 ⊢
 clear c0 c1 c2 c3 c4 c5 c6 c7 hf HR
 go_loopg [33] (s.size - z) (fun gk u wr=>∃ q:Nat,gk=s.size - q∧q≤s.size∧Hid (q+blanks (s.data.toList.drop q)=zz)∧Hid (RdAt wr r s q k0 x0 z0 n0 t0 z c d)∧w.grownBy wr (some r))
 case atStart=>exact ⟨z,rfl,hz,hzz,HR1,hg1⟩
 case round =>
  obtain ⟨q,rfl,hq,HQ,HRr,hgr⟩:=hrel
  obtain ⟨c0,c1,-,-,-,-,-,-,-,-⟩:=HRr.out.cells
  have hf:=HRr.out.frees 1
  clear HR1 hg1
  by_cases hlt:q<s.size
  ·have i0:(0:Int)≤(q:Int):=by omega
   have i1:(q:Int)<(s.size:Int):=by omega
   by_cases hb:isBlank s[q]=true
   ·have hst:=HQ.out
    rw [drop_at hlt,blanks_yes _ hb] at hst
    have HST:Hid (q+1+blanks (s.data.toList.drop (q+1))=zz):=by show _=_;omega
    have HC:=Lib.hid (fun W=>space_yes s[q] W hb)
    clear hst hb HQ
    go_wp2_with fail
    go_quiet ((go_at_call 109;exact Calls.quiet_of_same (HC.out _)))
    go_wp2_with fail
    go_roundg (s.size - (q+1))
    case rel=>exact ⟨q+1,rfl,by omega,HST,BlkAt.set (w:=wr.drewN nq) HRr.out 1 _,grown_set (grown_drewN hgr _) _ _⟩
    case measure=>omega
   ·have hb':isBlank s[q]=false:=by simpa using hb
    have hst:=HQ.out
    rw [drop_at hlt,blanks_zero _ hb',Nat.add_zero] at hst
    subst hst
    have HC:=Lib.hid (fun W=>space_no s[q] W hb')
    have HN:=Lib.hid (fun W hEW=>lexNext_in s q W (by omega) hq hEW k x y n t er (show resV (nextM s.data.toList q)=_ by rw [← hzz.out,nextM_skip];exact hR2.out))
    clear hb hb' HQ
    go_wp2_with fail
    go_quiet ((go_at_call 109;exact Calls.quiet_of_same (HC.out _)))
    go_wp2_with fail
    have hgd:=grown_drewN hgr nq
    have HRd:Hid (RdAt (wr.drewN nq) r s q k0 x0 z0 n0 t0 z c d):=HRr
    generalize wr.drewN nq=w3 at hgd HRd ⊢
    obtain ⟨d0,d1,d2,d3,d4,d5,d6,d7,-,-⟩:=HRd.out.cells
    clear c0 c1 hf HRr hgr
    have hrw3:=HRd.out.lt
    have hE3:=hE.below (grown_Below hBw hr hgd)
    by_cases he:er=0
    ·subst he
     go_region_held3 (fun w'=>Below w3.heap.size w3 w'∧w'.cell? ⟨r,0,none⟩=some (.string s)∧w'.cell? ⟨r,1,none⟩=some (.int .i64 q))
      ((refine (fun h=>⟨h,cell_keep h d0,cell_keep h d1⟩:Below w3.heap.size w3 _→_) ?_;go_split_ands;(repeat (first | exact Below.refl _ _ | assumption | refine bel_drew ?_ | refine bel_alloc ?_ _ | refine bel_set ?_ (Nat.le_refl _) _ | refine below_more ?_ (by assumption)))))
      ((go_at_call 110;refine (HN.out _ (hE3.below (by (repeat (first | exact Below.refl _ _ | refine bel_drew ?_ | refine bel_alloc ?_ _))))).mono ?_;rintro e w4 ⟨rfl,hb3⟩;obtain ⟨hc3,hf3⟩:=bcell hb3;have hsz3:=hb3.size))
     all_goals go_wp2_with fail
     all_goals have hbW:r<w4.heap.size:=Nat.lt_of_lt_of_le hrw3 (by simp at hsz3;omega)
     rotate_left
     ·have hM5:Hid (BlkAt (((((w4.setCell ⟨w3.heap.size,0,none⟩ (.int .u8 k)).setCell ⟨w3.heap.size,1,none⟩ (.int .i64 x)).setCell ⟨w3.heap.size,2,none⟩ (.int .i64 y)).setCell ⟨w3.heap.size,3,none⟩ (.int .i64 n)).setCell ⟨w3.heap.size,4,none⟩ (.string t)) w3.heap.size 118 #[.int .u8 k,.int .i64 x,.int .i64 y,.int .i64 n,.string t]) :=
       ((((BlkAt.set (BlkAt.keep (show BlkAt (w3.drew.alloc (.cells #[.int .u8 0,.int .i64 0,.int .i64 0,.int .i64 0,.string ⟨#[]⟩] 118)) w3.heap.size 118 #[.int .u8 0,.int .i64 0,.int .i64 0,.int .i64 0,.string ⟨#[]⟩] from heap_alloc_last w3.drew _) hb3) 0 _).set 1 _).set 2 _).set 3 _).set 4 _
      have hb5:Below w3.heap.size w3 (((((w4.setCell ⟨w3.heap.size,0,none⟩ (.int .u8 k)).setCell ⟨w3.heap.size,1,none⟩ (.int .i64 x)).setCell ⟨w3.heap.size,2,none⟩ (.int .i64 y)).setCell ⟨w3.heap.size,3,none⟩ (.int .i64 n)).setCell ⟨w3.heap.size,4,none⟩ (.string t)):=by go_split_ands;assumption
      have hne:w3.heap.size≠r:=by omega
      generalize (((((w4.setCell ⟨w3.heap.size,0,none⟩ (.int .u8 k)).setCell ⟨w3.heap.size,1,none⟩ (.int .i64 x)).setCell ⟨w3.heap.size,2,none⟩ (.int .i64 y)).setCell ⟨w3.heap.size,3,none⟩ (.int .i64 n)).setCell ⟨w3.heap.size,4,none⟩ (.string t))=W5 at hM5 hb5 ⊢
      have HR5:Hid (RdAt W5 r s q k0 x0 z0 n0 t0 z c d):=HRd.out.keep hb5
      obtain ⟨-,-,e2,e3,e4,e5,e6,e7,-,-⟩:=HR5.out.cells
      have ef:=HR5.out.frees
      have m0:=hM5.out.cell 0
      have m1:=hM5.out.cell 1
      have m2:=hM5.out.cell 2
      have m3:=hM5.out.cell 3
      have m4:=hM5.out.cell 4
      clear d0 d1 d2 d3 d4 d5 d6 d7
      go_region
      all_goals
       go_wp2_with fail
       go_ret
       exact ⟨rfl,grown_drew (grown_stored (grown_below hgd hb5) k x y n t),fun h=>absurd rfl h,fun _=>RdAt.drew (rd_stored HR5.out k x y n t)⟩
     ·have hM5:Hid (BlkAt (w4.alloc (.cells #[.int .u8 k,.int .i64 x,.int .i64 y,.int .i64 n,.string t] 118)) w4.heap.size 118 #[.int .u8 k,.int .i64 x,.int .i64 y,.int .i64 n,.string t]):=heap_alloc_last w4 _
      have hb5:Below w3.heap.size w3 (w4.alloc (.cells #[.int .u8 k,.int .i64 x,.int .i64 y,.int .i64 n,.string t] 118)):=by go_split_ands;assumption
      have hne:w4.heap.size≠r:=by omega
      generalize w4.alloc (.cells #[.int .u8 k,.int .i64 x,.int .i64 y,.int .i64 n,.string t] 118)=W5 at hM5 hb5 ⊢
      have HR5:Hid (RdAt W5 r s q k0 x0 z0 n0 t0 z c d):=HRd.out.keep hb5
      obtain ⟨-,-,e2,e3,e4,e5,e6,e7,-,-⟩:=HR5.out.cells
      have ef:=HR5.out.frees
      have m0:=hM5.out.cell 0
      have m1:=hM5.out.cell 1
      have m2:=hM5.out.cell 2
      have m3:=hM5.out.cell 3
      have m4:=hM5.out.cell 4
      clear d0 d1 d2 d3 d4 d5 d6 d7
      go_region
      all_goals
       go_wp2_with fail
       go_ret
       exact ⟨rfl,grown_drew (grown_stored (grown_below hgd hb5) k x y n t),fun h=>absurd rfl h,fun _=>RdAt.drew (rd_stored HR5.out k x y n t)⟩
    ·have heb:(er != 0)=true:=by rw [bne_iff_ne];exact he
     go_region_held3 (fun w'=>Below w3.heap.size w3 w'∧w'.cell? ⟨r,0,none⟩=some (.string s)∧w'.cell? ⟨r,1,none⟩=some (.int .i64 q))
      ((refine (fun h=>⟨h,cell_keep h d0,cell_keep h d1⟩:Below w3.heap.size w3 _→_) ?_;go_split_ands;(repeat (first | exact Below.refl _ _ | assumption | refine bel_drew ?_ | refine bel_alloc ?_ _ | refine bel_set ?_ (Nat.le_refl _) _ | refine below_more ?_ (by assumption)))))
      ((go_at_call 110;refine (HN.out _ (hE3.below (by (repeat (first | exact Below.refl _ _ | refine bel_drew ?_ | refine bel_alloc ?_ _))))).mono ?_;rintro e w4 ⟨rfl,hb3⟩;obtain ⟨hc3,hf3⟩:=bcell hb3;have hsz3:=hb3.size))
     all_goals
      go_wp2_with fail
      go_ret
      exact ⟨rfl,grown_below hgd (by go_split_ands;assumption),fun _=>HRd.out.keep (by go_split_ands;assumption),fun h=>absurd h he⟩
  ·have hst:=HQ.out
   have hqe:s.data.toList.drop q=[]:=List.drop_of_length_le (by rw [size_len];omega)
   rw [hqe,show blanks []=0 from rfl,Nat.add_zero] at hst
   subst hst
   have i2:¬ (q:Int)<(s.size:Int):=by omega
   clear hqe
   have HN:=Lib.hid (fun W hEW=>lexNext_in s q W (by omega) hq hEW k x y n t er (show resV (nextM s.data.toList q)=_ by rw [← hzz.out,nextM_skip];exact hR2.out))
   clear HQ
   go_wp2_with fail
   go_quiet (fail)
   go_wp2_with fail
   have hgd:=grown_drewN hgr nq
   have HRd:Hid (RdAt (wr.drewN nq) r s q k0 x0 z0 n0 t0 z c d):=HRr
   generalize wr.drewN nq=w3 at hgd HRd ⊢
   obtain ⟨d0,d1,d2,d3,d4,d5,d6,d7,-,-⟩:=HRd.out.cells
   clear c0 c1 hf HRr hgr
   have hrw3:=HRd.out.lt
   have hE3:=hE.below (grown_Below hBw hr hgd)
   by_cases he:er=0
   ·subst he
    go_region_held3 (fun w'=>Below w3.heap.size w3 w'∧w'.cell? ⟨r,0,none⟩=some (.string s)∧w'.cell? ⟨r,1,none⟩=some (.int .i64 q))
     ((refine (fun h=>⟨h,cell_keep h d0,cell_keep h d1⟩:Below w3.heap.size w3 _→_) ?_;go_split_ands;(repeat (first | exact Below.refl _ _ | assumption | refine bel_drew ?_ | refine bel_alloc ?_ _ | refine bel_set ?_ (Nat.le_refl _) _ | refine below_more ?_ (by assumption)))))
     ((go_at_call 110;refine (HN.out _ (hE3.below (by (repeat (first | exact Below.refl _ _ | refine bel_drew ?_ | refine bel_alloc ?_ _))))).mono ?_;rintro e w4 ⟨rfl,hb3⟩;obtain ⟨hc3,hf3⟩:=bcell hb3;have hsz3:=hb3.size))
    all_goals go_wp2_with fail
    all_goals have hbW:r<w4.heap.size:=Nat.lt_of_lt_of_le hrw3 (by simp at hsz3;omega)
    rotate_left
    ·have hM5:Hid (BlkAt (((((w4.setCell ⟨w3.heap.size,0,none⟩ (.int .u8 k)).setCell ⟨w3.heap.size,1,none⟩ (.int .i64 x)).setCell ⟨w3.heap.size,2,none⟩ (.int .i64 y)).setCell ⟨w3.heap.size,3,none⟩ (.int .i64 n)).setCell ⟨w3.heap.size,4,none⟩ (.string t)) w3.heap.size 118 #[.int .u8 k,.int .i64 x,.int .i64 y,.int .i64 n,.string t]) :=
      ((((BlkAt.set (BlkAt.keep (show BlkAt (w3.drew.alloc (.cells #[.int .u8 0,.int .i64 0,.int .i64 0,.int .i64 0,.string ⟨#[]⟩] 118)) w3.heap.size 118 #[.int .u8 0,.int .i64 0,.int .i64 0,.int .i64 0,.string ⟨#[]⟩] from heap_alloc_last w3.drew _) hb3) 0 _).set 1 _).set 2 _).set 3 _).set 4 _
     have hb5:Below w3.heap.size w3 (((((w4.setCell ⟨w3.heap.size,0,none⟩ (.int .u8 k)).setCell ⟨w3.heap.size,1,none⟩ (.int .i64 x)).setCell ⟨w3.heap.size,2,none⟩ (.int .i64 y)).setCell ⟨w3.heap.size,3,none⟩ (.int .i64 n)).setCell ⟨w3.heap.size,4,none⟩ (.string t)):=by go_split_ands;assumption
     have hne:w3.heap.size≠r:=by omega
     generalize (((((w4.setCell ⟨w3.heap.size,0,none⟩ (.int .u8 k)).setCell ⟨w3.heap.size,1,none⟩ (.int .i64 x)).setCell ⟨w3.heap.size,2,none⟩ (.int .i64 y)).setCell ⟨w3.heap.size,3,none⟩ (.int .i64 n)).setCell ⟨w3.heap.size,4,none⟩ (.string t))=W5 at hM5 hb5 ⊢
     have HR5:Hid (RdAt W5 r s q k0 x0 z0 n0 t0 z c d):=HRd.out.keep hb5
     obtain ⟨-,-,e2,e3,e4,e5,e6,e7,-,-⟩:=HR5.out.cells
     have ef:=HR5.out.frees
     have m0:=hM5.out.cell 0
     have m1:=hM5.out.cell 1
     have m2:=hM5.out.cell 2
     have m3:=hM5.out.cell 3
     have m4:=hM5.out.cell 4
     clear d0 d1 d2 d3 d4 d5 d6 d7
     go_region
     all_goals
      go_wp2_with fail
      go_ret
      exact ⟨rfl,grown_drew (grown_stored (grown_below hgd hb5) k x y n t),fun h=>absurd rfl h,fun _=>RdAt.drew (rd_stored HR5.out k x y n t)⟩
    ·have hM5:Hid (BlkAt (w4.alloc (.cells #[.int .u8 k,.int .i64 x,.int .i64 y,.int .i64 n,.string t] 118)) w4.heap.size 118 #[.int .u8 k,.int .i64 x,.int .i64 y,.int .i64 n,.string t]):=heap_alloc_last w4 _
     have hb5:Below w3.heap.size w3 (w4.alloc (.cells #[.int .u8 k,.int .i64 x,.int .i64 y,.int .i64 n,.string t] 118)):=by go_split_ands;assumption
     have hne:w4.heap.size≠r:=by omega
     generalize w4.alloc (.cells #[.int .u8 k,.int .i64 x,.int .i64 y,.int .i64 n,.string t] 118)=W5 at hM5 hb5 ⊢
     have HR5:Hid (RdAt W5 r s q k0 x0 z0 n0 t0 z c d):=HRd.out.keep hb5
     obtain ⟨-,-,e2,e3,e4,e5,e6,e7,-,-⟩:=HR5.out.cells
     have ef:=HR5.out.frees
     have m0:=hM5.out.cell 0
     have m1:=hM5.out.cell 1
     have m2:=hM5.out.cell 2
     have m3:=hM5.out.cell 3
     have m4:=hM5.out.cell 4
     clear d0 d1 d2 d3 d4 d5 d6 d7
     go_region
     all_goals
      go_wp2_with fail
      go_ret
      exact ⟨rfl,grown_drew (grown_stored (grown_below hgd hb5) k x y n t),fun h=>absurd rfl h,fun _=>RdAt.drew (rd_stored HR5.out k x y n t)⟩
   ·have heb:(er != 0)=true:=by rw [bne_iff_ne];exact he
    go_region_held3 (fun w'=>Below w3.heap.size w3 w'∧w'.cell? ⟨r,0,none⟩=some (.string s)∧w'.cell? ⟨r,1,none⟩=some (.int .i64 q))
     ((refine (fun h=>⟨h,cell_keep h d0,cell_keep h d1⟩:Below w3.heap.size w3 _→_) ?_;go_split_ands;(repeat (first | exact Below.refl _ _ | assumption | refine bel_drew ?_ | refine bel_alloc ?_ _ | refine bel_set ?_ (Nat.le_refl _) _ | refine below_more ?_ (by assumption)))))
     ((go_at_call 110;refine (HN.out _ (hE3.below (by (repeat (first | exact Below.refl _ _ | refine bel_drew ?_ | refine bel_alloc ?_ _))))).mono ?_;rintro e w4 ⟨rfl,hb3⟩;obtain ⟨hc3,hf3⟩:=bcell hb3;have hsz3:=hb3.size))
    all_goals
     go_wp2_with fail
     go_ret
     exact ⟨rfl,grown_below hgd (by go_split_ands;assumption),fun _=>HRd.out.keep (by go_split_ands;assumption),fun h=>absurd h he⟩
end

section
set_option maxRecDepth 100000
open Go.RowKit
def MkB (m:Mk):Prop:=-9223372036854775808≤m.n∧m.n≤9223372036854775807∧m.t.length≤4096
theorem strGo_len:∀ (f:Nat) (l out:List UInt8),out.length≤4096→(strGo f l out).1.length≤4096
 | 0,_,_,_=>by simp [strGo]
 | _+1,[],_,_=>by simp [strGo]
 | f+1,c :: r,out,h=>by
   rw [strGo]
   by_cases h1:c.toNat=34
   ·rw [if_pos h1];exact h
   rw [if_neg h1]
   by_cases h2:(itemP (c :: r)).2.2≠0
   ·rw [if_pos h2];simp
   rw [if_neg h2]
   by_cases h3:4096<out.length+(encP (itemP (c :: r)).1).length
   ·rw [if_pos h3];simp
   rw [if_neg h3]
   by_cases h4:(strGo f ((c :: r).drop (itemP (c :: r)).2.1) (out++encP (itemP (c :: r)).1)).2.2≠0
   ·rw [if_pos h4];simp
   rw [if_neg h4]
   exact strGo_len f _ _ (by rw [List.length_append];omega)
theorem tokP_b (l:List UInt8):-9223372036854775808≤(tokP l).n∧(tokP l).n≤9223372036854775807∧(tokP l).t.length≤4096:=by
 match l with
 | []=>simp [tokP]
 | c :: r =>
   rw [tokP]
   by_cases h1:signOf c≠0
   ·rw [if_pos h1];simp
   rw [if_neg h1]
   by_cases h2:c.toNat=34
   ·rw [if_pos h2]
    unfold textP
    by_cases h3:(strP r).2.2≠0
    ·rw [if_pos h3];simp [Tok.bad]
    ·rw [if_neg h3]
     exact ⟨by simp,by simp,strGo_len _ _ _ (by simp)⟩
   rw [if_neg h2]
   by_cases h3:numFirst c=true
   ·rw [if_pos h3]
    unfold numP
    by_cases h4:Nm.form ((c :: r).takeWhile Nm.isN)=false
    ·rw [if_pos h4];simp [Tok.bad]
    rw [if_neg h4]
    by_cases h5:-9223372036854775808≤Nm.val ((c :: r).takeWhile Nm.isN)∧Nm.val ((c :: r).takeWhile Nm.isN)≤9223372036854775807
    ·rw [if_pos h5];exact ⟨h5.1,h5.2,by simp⟩
    ·rw [if_neg h5];simp [Tok.bad]
   ·rw [if_neg h3]
    unfold wordP
    split
    ·simp
    ·split <;> simp [Tok.bad]
theorem nextM_b {s:List UInt8} {z:Nat} {m:Mk} {e:Int} (h:nextM s z=(m,e)):MkB m:=by
 unfold nextM at h
 by_cases h1:(tokB (s.drop z)).e≠0
 ·rw [if_pos h1] at h
  simp only [Prod.mk.injEq] at h
  obtain ⟨rfl,-⟩:=h
  exact ⟨by decide,by decide,by decide⟩
 ·rw [if_neg h1] at h
  simp only [Prod.mk.injEq] at h
  obtain ⟨rfl,-⟩:=h
  exact tokP_b _
def StAt (w:World) (r:Nat) (s:ByteArray) (m:Mk) (ms:List Lx) (c d:Int):Prop :=
 RdAt w r s m.a m.k m.a m.z m.n ⟨m.t.toArray⟩ m.z c d∧m.z≤s.size∧(ms=if m.k=11 then [] else lexes (s.data.toList.drop m.z) m.z)∧MkB m
def StBad (w:World) (r:Nat) (s:ByteArray) (p:Nat):Prop:=∃ (k x z n:Int) (t:ByteArray) (af c d:Int),RdAt w r s p k x z n t af c d
structure Bas (B w:World) (r:Nat):Prop where
 env:NumEnv B
 below:Below B.heap.size B w
 ge:B.heap.size≤r
theorem Bas.grown {B w w':World} {r:Nat} (h:Bas B w r) (hg:w.grownBy w' (some r)):Bas B w' r:=⟨h.env,grown_Below h.below h.ge hg,h.ge⟩
theorem StAt.bad {w:World} {r:Nat} {s:ByteArray} {m:Mk} {ms:List Lx} {c d:Int} (h:StAt w r s m ms c d):StBad w r s m.a:=⟨_,_,_,_,_,_,_,_,h.1⟩
theorem StAt.lt {w:World} {r:Nat} {s:ByteArray} {m:Mk} {ms:List Lx} {c d:Int} (h:StAt w r s m ms c d):r<w.heap.size:=BlkAt.lt h.1
theorem StAt.keep {w w':World} {r:Nat} {s:ByteArray} {m:Mk} {ms:List Lx} {c d:Int} (h:StAt w r s m ms c d) (hb:Below w.heap.size w w'):StAt w' r s m ms c d:=⟨BlkAt.keep h.1 hb,h.2⟩
theorem StAt.same {w w':World} {r:Nat} {s:ByteArray} {m:Mk} {ms:List Lx} {c d:Int} (h:StAt w r s m ms c d) (hb:w'.heap[r]?=w.heap[r]?):StAt w' r s m ms c d:=⟨by unfold RdAt BlkAt;rw [hb];exact h.1,h.2⟩
theorem StBad.same {w w':World} {r:Nat} {s:ByteArray} {p:Nat} (h:StBad w r s p) (hb:w'.heap[r]?=w.heap[r]?):StBad w' r s p:=by
 obtain ⟨k,x,z,n,t,af,c,d,h⟩:=h
 exact ⟨k,x,z,n,t,af,c,d,by unfold RdAt BlkAt;rw [hb];exact h⟩
theorem lexes_ne (l:List UInt8) (p:Nat):lexes l p≠[]:=by
 rw [lexes_step]
 by_cases h1:(tokB l).e≠0
 ·rw [if_pos h1];simp
 ·rw [if_neg h1];simp
theorem lexes_err {l:List UInt8} {p q:Nat} {e:Int} {r:List Lx} (h:lexes l p=.err q e :: r):e≠0:=by
 rw [lexes_step] at h
 by_cases h1:(tokB l).e≠0
 ·rw [if_pos h1] at h
  simp only [List.cons.injEq,Lx.err.injEq] at h
  rw [← h.1.2];exact h1
 ·rw [if_neg h1] at h;simp at h
theorem StAt.err {w:World} {r:Nat} {s:ByteArray} {m:Mk} {c d:Int} {q:Nat} {e:Int} {tl:List Lx} (h:StAt w r s m (.err q e :: tl) c d):e≠0:=by
 have h3:=h.2.2.1
 by_cases hk:m.k=11
 ·rw [if_pos hk] at h3;cases h3
 ·rw [if_neg hk] at h3;exact lexes_err h3.symm
theorem StAt.nonil {w:World} {r:Nat} {s:ByteArray} {m:Mk} {c d:Int} (h:StAt w r s m [] c d):m.k=11:=by
 apply Classical.byContradiction
 intro hk
 have h3:=h.2.2.1
 rw [if_neg hk] at h3
 exact lexes_ne _ _ h3.symm
theorem nextM_zero {s:List UInt8} {z:Nat} {m:Mk} {e:Int} (h:nextM s z=(m,e)) (he:e≠0):m=⟨0,0,0,0,[]⟩:=by
 unfold nextM at h
 by_cases h1:(tokB (s.drop z)).e≠0
 ·rw [if_pos h1] at h
  simp only [Prod.mk.injEq] at h
  exact h.1.symm
 ·rw [if_neg h1] at h
  simp only [Prod.mk.injEq] at h
  exact absurd h.2.symm he
theorem next_err {B w:World} {r:Nat} {s:ByteArray} {m:Mk} {ms:List Lx} {c d:Int} (hs:s.size≤65536) (hB:Bas B w r) (h:StAt w r s m ms c d) (hk:m.k≠11) {p:Nat} {e:Int} {tl:List Lx} (hms:Hid (ms=.err p e :: tl)) :
 Calls Tryz.prog 82 #[.pointer (some ⟨r,0,none⟩)] w fun e' w'=>e'=.returned (.int .i64 e)∧w.grownBy w' (some r)∧StBad w' r s p:=by
 obtain ⟨hR,hz,h3,-⟩:=h
 rw [if_neg hk,hms.out] at h3
 obtain ⟨m',er,hn⟩:∃ m' er,nextM s.data.toList m.z=(m',er):=⟨_,_,rfl⟩
 by_cases he:er=0
 ·subst he
  rw [lexes_tok _ _ _ hn] at h3
  simp at h3
 ·rw [lexes_bad _ _ _ _ hn he] at h3
  simp only [List.cons.injEq,Lx.err.injEq] at h3
  obtain ⟨⟨rfl,rfl⟩,-⟩:=h3
  have hm':=nextM_zero hn he
  subst hm'
  refine (rdNext_any s r m.z w B hs hz hB.env hB.below hB.ge _ _ _ _ _ _ c d hR 0 0 0 0 ⟨#[]⟩ e (show resV _=_ by rw [hn];rfl) _ (Lib.hid rfl)).mono ?_
  rintro e' w' ⟨rfl,hg,hbad,-⟩
  exact ⟨rfl,hg,_,_,_,_,_,_,_,_,hbad he⟩
theorem next_tok {B w:World} {r:Nat} {s:ByteArray} {m:Mk} {ms:List Lx} {c d:Int} (hs:s.size≤65536) (hB:Bas B w r) (h:StAt w r s m ms c d) (hk:m.k≠11) {m':Mk} {ms':List Lx} (hms:Hid (ms=.tok m' :: ms')) :
 Calls Tryz.prog 82 #[.pointer (some ⟨r,0,none⟩)] w fun e' w'=>e'=.returned (.int .i64 0)∧w.grownBy w' (some r)∧StAt w' r s m' ms' c d:=by
 obtain ⟨hR,hz,h3,-⟩:=h
 rw [if_neg hk,hms.out] at h3
 obtain ⟨m2,er,hn⟩:∃ m2 er,nextM s.data.toList m.z=(m2,er):=⟨_,_,rfl⟩
 by_cases he:er=0
 ·subst he
  rw [lexes_tok _ _ _ hn] at h3
  simp only [List.cons.injEq,Lx.tok.injEq] at h3
  obtain ⟨rfl,rfl⟩:=h3
  obtain ⟨k1,k2,k3,k4,-⟩:=nextM_ok (by rw [size_len];exact hz) hn
  rw [size_len] at k4
  refine (rdNext_any s r m.z w B hs hz hB.env hB.below hB.ge _ _ _ _ _ _ c d hR m'.k m'.a m'.z m'.n ⟨m'.t.toArray⟩ 0 (show resV _=_ by rw [hn];rfl) m'.a (Lib.hid k2.symm)).mono ?_
  rintro e' w' ⟨rfl,hg,-,hok⟩
  exact ⟨rfl,hg,hok rfl,k4,rfl,nextM_b hn⟩
 ·rw [lexes_bad _ _ _ _ hn he] at h3
  simp at h3
theorem StAt.kcell {w:World} {r:Nat} {s:ByteArray} {m:Mk} {ms:List Lx} {c d:Int} (h:StAt w r s m ms c d):w.cell? ⟨r,2,none⟩=some (.int .u8 m.k):=h.1.cells.2.2.1
/-! wrong -/
theorem wrong_any {w:World} {r:Nat} {k:Int} (hc:w.cell? ⟨r,2,none⟩=some (.int .u8 k)) (v:Int) (hv:Hid ((if k=11 then (4:Int) else 3)=v)) :
 Calls Tryz.prog 111 #[.pointer (some ⟨r,0,none⟩)] w fun e w'=>e=.returned (.int .i64 v)∧w=w':=by
 by_cases hk:k=11
 ·have h:=hv.out
  rw [if_pos hk] at h
  subst h
  have hb:(k == 11)=true:=by rw [hk];rfl
  clear hv hk
  go_enter Tryz.func111,Tryz.ntmps111
  go_wp2_with fail
  go_ret
  exact ⟨rfl,rfl⟩
 ·have h:=hv.out
  rw [if_neg hk] at h
  subst h
  have hb:(k == 11)=false:=beq_eq_false_iff_ne.2 hk
  clear hv hk
  go_enter Tryz.func111,Tryz.ntmps111
  go_wp2_with fail
  go_ret
  exact ⟨rfl,rfl⟩
/-! expect -/
inductive MQ where
 | bad (p:Nat) (e:Int)
 | fin (m:Mk) (r:List Lx)
 | go (m:Mk) (r:List Lx)
def expQ (k:Int):List Lx→MQ
 | []=>.bad 0 0
 | .err p e :: _=>.bad p e
 | .tok m :: r=>if m.k=k then .fin m r else .bad m.a (wrongE m 3)
def MPost (R:MQ) (s:ByteArray) (r:Nat) (c d:Int) (w:World) (e:Ending) (w':World):Prop :=
 w.grownBy w' (some r)∧match R with
  | .bad p er=>e=.returned (.int .i64 er)∧StBad w' r s p∧er≠0
  | .fin m ms=>e=.returned (.int .i64 0)∧StAt w' r s m ms c d
  | .go _ _=>False
theorem wrongE_ne (m:Mk):wrongE m 3≠0:=by unfold wrongE;split <;> decide
theorem expect_any {B w:World} {r:Nat} {s:ByteArray} {m:Mk} {ms:List Lx} {c d:Int} (hs:s.size≤65536) (hB:Bas B w r) (h:StAt w r s m ms c d) (hk:m.k≠11) (k:Int) (R:MQ) (hR:Hid (expQ k ms=R)) :
 Calls Tryz.prog 146 #[.pointer (some ⟨r,0,none⟩),.int .u8 k] w (MPost R s r c d w):=by
 match ms with
 | []=>exact absurd h.nonil hk
 | .err p e :: tl =>
   have hne:=h.err
   have heb:(e != 0)=true:=by rw [bne_iff_ne];exact hne
   have hr:=hR.out
   subst hr
   have HN:=Lib.hid (next_err hs hB h hk (Lib.hid rfl))
   clear hR hB h
   go_enter Tryz.func146,Tryz.ntmps146
   go_wp2_with fail
   refine HN.out.mono ?_
   rintro e' w' ⟨rfl,hg,hb⟩
   go_wp2_with fail
   go_ret
   exact ⟨hg,rfl,hb,hne⟩
 | .tok m2 :: r2 =>
   have HN:=Lib.hid (next_tok hs hB h hk (Lib.hid rfl))
   have hr:=hR.out
   rw [expQ] at hr
   by_cases hkk:m2.k=k
   ·rw [if_pos hkk] at hr
    subst hr
    have hb:(m2.k != k)=false:=by rw [hkk];simp
    clear hR hB h
    try clear hv
    go_enter Tryz.func146,Tryz.ntmps146
    go_wp2_with fail
    refine HN.out.mono ?_
    rintro e' w' ⟨rfl,hg,hst⟩
    have hc:=hst.kcell
    have HST:=Lib.hid hst
    clear hst hkk
    go_wp2_with fail
    go_ret
    exact ⟨hg,rfl,HST.out⟩
   ·rw [if_neg hkk] at hr
    have hne:=wrongE_ne m2
    generalize hv:wrongE m2 3=v at hr hne
    have HV:=Lib.hid hv
    subst hr
    have hb:(m2.k != k)=true:=by rw [bne_iff_ne];exact hkk
    clear hR hB h
    try clear hv
    go_enter Tryz.func146,Tryz.ntmps146
    go_wp2_with fail
    refine HN.out.mono ?_
    rintro e' w' ⟨rfl,hg,hst⟩
    have hc:=hst.kcell
    have HST:=Lib.hid hst
    have HW:=Lib.hid (wrong_any hc v HV)
    clear hst hkk
    go_wp2_with fail
    refine HW.out.mono ?_
    rintro e' w'' ⟨rfl,rfl⟩
    go_wp2_with fail
    go_ret
    exact ⟨hg,rfl,HST.out.bad,hne⟩
/-! more -/
def moreQ (last:Int):List Lx→MQ
 | []=>.bad 0 0
 | .err p e :: _=>.bad p e
 | .tok m :: r=>if m.k=last then .fin m r else if m.k=5 then (match r with | []=>.bad 0 0 | .err p e :: _=>.bad p e | .tok m3 :: r3=>.go m3 r3) else .bad m.a (wrongE m 3)
theorem moreP_Q {α:Type} (last:Int) (fin:List Lx→PR α) (go:Mk→List Lx→PR α) (ms:List Lx):moreP last fin go ms=match moreQ last ms with | .bad p e=>.bad p e | .fin _ r=>fin r | .go m r=>go m r:=by
 match ms with
 | []=>rfl
 | .err p e :: tl=>rfl
 | .tok m :: r =>
   unfold moreP moreQ
   show (if m.k=last then _ else if m.k=5 then _ else _)=_
   by_cases h1:m.k=last
   ·rw [if_pos h1]
    simp only [if_pos h1]
   ·rw [if_neg h1]
    simp only [if_neg h1]
    by_cases h2:m.k=5
    ·rw [if_pos h2]
     simp only [if_pos h2]
     match r with
     | []=>rfl
     | .err p e :: tl=>rfl
     | .tok m3 :: r3=>rfl
    ·rw [if_neg h2]
     simp only [if_neg h2]
def M2Post (R:MQ) (s:ByteArray) (r:Nat) (c d:Int) (w:World) (e:Ending) (w':World):Prop :=
 w.grownBy w' (some r)∧match R with
  | .bad p er=>e=.returned (.tuple #[.bool false,.int .i64 er])∧StBad w' r s p∧er≠0
  | .fin m ms=>e=.returned (.tuple #[.bool false,.int .i64 0])∧StAt w' r s m ms c d
  | .go m ms=>e=.returned (.tuple #[.bool true,.int .i64 0])∧StAt w' r s m ms c d
theorem more_any {B w:World} {r:Nat} {s:ByteArray} {m:Mk} {ms:List Lx} {c d:Int} (hs:s.size≤65536) (hB:Bas B w r) (h:StAt w r s m ms c d) (hk:m.k≠11) (last:Int) (R:MQ) (hR:Hid (moreQ last ms=R)) :
 Calls Tryz.prog 128 #[.pointer (some ⟨r,0,none⟩),.int .u8 last] w (M2Post R s r c d w):=by
 match ms with
 | []=>exact absurd h.nonil hk
 | .err p e :: tl =>
   have hne:=h.err
   have heb:(e != 0)=true:=by rw [bne_iff_ne];exact hne
   have hr:=hR.out
   subst hr
   have HN:=Lib.hid (next_err hs hB h hk (Lib.hid rfl))
   clear hR hB h
   go_enter Tryz.func128,Tryz.ntmps128
   go_wp2_with fail
   refine HN.out.mono ?_
   rintro e' w' ⟨rfl,hg,hb⟩
   go_wp2_with fail
   go_ret2
   exact ⟨hg,rfl,hb,hne⟩
 | .tok m2 :: r2 =>
   have HN:=Lib.hid (next_tok hs hB h hk (Lib.hid rfl))
   have HB:=Lib.hid hB
   have hr:=hR.out
   unfold moreQ at hr
   dsimp only at hr
   by_cases hkk:m2.k=last
   ·rw [if_pos hkk] at hr
    subst hr
    have hb:(m2.k == last)=true:=by rw [hkk];simp
    clear hR hB h
    go_enter Tryz.func128,Tryz.ntmps128
    go_wp2_with fail
    refine HN.out.mono ?_
    rintro e' w' ⟨rfl,hg,hst⟩
    have hc:=hst.kcell
    have HST:=Lib.hid hst
    clear hst hkk
    go_wp2_with fail
    go_ret2
    exact ⟨hg,rfl,HST.out⟩
   ·rw [if_neg hkk] at hr
    have hb:(m2.k == last)=false:=beq_eq_false_iff_ne.2 hkk
    by_cases h5:m2.k=5
    ·have hb5:(m2.k == 5)=true:=by rw [h5];rfl
     have hk2:m2.k≠11:=by omega
     rw [if_pos h5] at hr
     match r2 with
     | [] =>
       exfalso
       have h3:=h.2.2.1
       rw [if_neg hk] at h3
       obtain ⟨m',er,hn⟩:∃ m' er,nextM s.data.toList m.z=(m',er):=⟨_,_,rfl⟩
       by_cases he:er=0
       ·subst he
        rw [lexes_tok _ _ _ hn] at h3
        simp only [List.cons.injEq,Lx.tok.injEq] at h3
        obtain ⟨rfl,h3⟩:=h3
        rw [if_neg hk2] at h3
        exact lexes_ne _ _ h3.symm
       ·rw [lexes_bad _ _ _ _ hn he] at h3
        simp at h3
     | .err p e :: tl =>
       subst hr
       clear hR hB h
       go_enter Tryz.func128,Tryz.ntmps128
       go_wp2_with fail
       refine HN.out.mono ?_
       rintro e' w' ⟨rfl,hg,hst⟩
       have hc:=hst.kcell
       have hne:=hst.err
       have heb:(e != 0)=true:=by rw [bne_iff_ne];exact hne
       have HN2:=Lib.hid (next_err hs (HB.out.grown hg) hst hk2 (Lib.hid rfl))
       clear hst hkk h5
       go_wp2_with fail
       refine HN2.out.mono ?_
       rintro e' w'' ⟨rfl,hg2,hb2⟩
       go_wp2_with fail
       go_ret2
       exact ⟨hg.trans hg2,rfl,hb2,hne⟩
     | .tok m3 :: r3 =>
       subst hr
       clear hR hB h
       go_enter Tryz.func128,Tryz.ntmps128
       go_wp2_with fail
       refine HN.out.mono ?_
       rintro e' w' ⟨rfl,hg,hst⟩
       have hc:=hst.kcell
       have HN2:=Lib.hid (next_tok hs (HB.out.grown hg) hst hk2 (Lib.hid rfl))
       clear hst hkk h5
       go_wp2_with fail
       refine HN2.out.mono ?_
       rintro e' w'' ⟨rfl,hg2,hst2⟩
       have HST:=Lib.hid hst2
       clear hst2
       go_wp2_with fail
       go_ret2
       exact ⟨hg.trans hg2,rfl,HST.out⟩
    ·rw [if_neg h5] at hr
     have hne:=wrongE_ne m2
     generalize hv:wrongE m2 3=v at hr hne
     have HV:=Lib.hid hv
     subst hr
     have hb5:(m2.k == 5)=false:=beq_eq_false_iff_ne.2 h5
     clear hR hB h
     try clear hv
     go_enter Tryz.func128,Tryz.ntmps128
     go_wp2_with fail
     refine HN.out.mono ?_
     rintro e' w' ⟨rfl,hg,hst⟩
     have hc:=hst.kcell
     have HST:=Lib.hid hst
     have HW:=Lib.hid (wrong_any hc v HV)
     clear hst hkk h5
     go_wp2_with fail
     refine HW.out.mono ?_
     rintro e' w'' ⟨rfl,rfl⟩
     go_wp2_with fail
     go_ret2
     exact ⟨hg,rfl,HST.out.bad,hne⟩
end

section
set_option maxRecDepth 100000
open Go.RowKit
def zeroV:Value:=.agg #[.int .u8 0,.int .i64 0,.string ⟨#[]⟩,.slice none 0 0,.slice none 0 0]
def VPost (R:PR JV) (s:ByteArray) (r:Nat) (d:Int) (w:World) (e:Ending) (w':World):Prop :=
 w.grownBy w' (some r)∧match R with
  | .bad p er=>e=.returned (.tuple #[zeroV,.int .i64 er])∧StBad w' r s p∧er≠0
  | .ok V ms c=>∃ (x:VC) (m:Mk),e=.returned (.tuple #[x.val,.int .i64 0])∧NewV w.heap.size w' V x.val∧StAt w' r s m ms c d∧m.k≠11
theorem StAt.count {w:World} {r:Nat} {s:ByteArray} {m:Mk} {ms:List Lx} {c d:Int} (h:StAt w r s m ms c d) (c':Int):StAt (w.setCell ⟨r,8,none⟩ (.int .i64 c')) r s m ms c' d:=⟨BlkAt.set h.1 8 _,h.2⟩
theorem StAt.depth {w:World} {r:Nat} {s:ByteArray} {m:Mk} {ms:List Lx} {c d:Int} (h:StAt w r s m ms c d) (d':Int):StAt (w.setCell ⟨r,9,none⟩ (.int .i64 d')) r s m ms c d':=⟨BlkAt.set h.1 9 _,h.2⟩
theorem StAt.ncell {w:World} {r:Nat} {s:ByteArray} {m:Mk} {ms:List Lx} {c d:Int} (h:StAt w r s m ms c d):w.cell? ⟨r,5,none⟩=some (.int .i64 m.n):=h.1.cells.2.2.2.2.2.1
theorem StAt.tcell {w:World} {r:Nat} {s:ByteArray} {m:Mk} {ms:List Lx} {c d:Int} (h:StAt w r s m ms c d):w.cell? ⟨r,6,none⟩=some (.string ⟨m.t.toArray⟩):=h.1.cells.2.2.2.2.2.2.1
theorem StAt.ccell {w:World} {r:Nat} {s:ByteArray} {m:Mk} {ms:List Lx} {c d:Int} (h:StAt w r s m ms c d):w.cell? ⟨r,8,none⟩=some (.int .i64 c):=h.1.cells.2.2.2.2.2.2.2.2.1
theorem StAt.dcell {w:World} {r:Nat} {s:ByteArray} {m:Mk} {ms:List Lx} {c d:Int} (h:StAt w r s m ms c d):w.cell? ⟨r,9,none⟩=some (.int .i64 d):=h.1.cells.2.2.2.2.2.2.2.2.2
theorem StAt.mkb {w:World} {r:Nat} {s:ByteArray} {m:Mk} {ms:List Lx} {c d:Int} (h:StAt w r s m ms c d):MkB m:=h.2.2.2
theorem StAt.free {w:World} {r:Nat} {s:ByteArray} {m:Mk} {ms:List Lx} {c d:Int} (h:StAt w r s m ms c d):∀ i,w.frozen? ⟨r,i,none⟩=false:=h.1.frees
theorem begV_no {m:Mk} (h:begV m=false):(m.k == 1)=false∧(m.k == 3)=false∧(m.k == 7)=false∧(m.k == 8)=false∧(m.k == 9)=false∧(m.k == 10)=false:=by
 simp only [begV,Bool.or_eq_false_iff] at h
 obtain ⟨⟨⟨⟨⟨a,b⟩,c⟩,d⟩,e⟩,f⟩:=h
 exact ⟨a,b,c,d,e,f⟩
theorem value_wrong {w:World} {r:Nat} {s:ByteArray} {m:Mk} {ms:List Lx} {c d:Int} (h:StAt w r s m ms c d) (hb:begV m=false) (v:Int) (hv:Hid (wrongE m 3=v)) :
 Calls Tryz.prog 83 #[.pointer (some ⟨r,0,none⟩)] w (VPost (.bad m.a v) s r d w):=by
 obtain ⟨e1,e2,e3,e4,e5,e6⟩:=begV_no hb
 have hk:=h.kcell
 have hlt:=h.lt
 have H:=Lib.hid h
 have hne:v≠0:=by rw [← hv.out];exact wrongE_ne m
 have HW:=Lib.hid (fun (W:World) (hc:W.cell? ⟨r,2,none⟩=some (.int .u8 m.k))=>wrong_any hc v hv)
 clear hb h
 go_enter Tryz.func83,Tryz.ntmps83
 go_wp2_with fail
 refine (HW.out _ (by rw [cell_al_lt _ _ _ _ hlt];exact hk)).mono ?_
 rintro e w' ⟨rfl,rfl⟩
 go_wp2_with fail
 exact bodyPost_ret (v:=.tuple #[zeroV,.int .i64 v]) (by simp [results,Tryz.results83,go_sem,zeroV]) rfl ⟨grown_alloc (World.grownBy.refl _ _) _,rfl,(H.out.keep (bel_alloc (Below.refl _ _) _)).bad,hne⟩
theorem beg_cases {m:Mk} (h:¬ begV m=false):m.k=1∨m.k=3∨m.k=7∨m.k=8∨m.k=9∨m.k=10:=by
 simp only [begV,Bool.not_eq_false,Bool.or_eq_true,beq_iff_eq] at h
 omega
theorem value_much {w:World} {r:Nat} {s:ByteArray} {m:Mk} {ms:List Lx} {c:Nat} {d:Int} (h:StAt w r s m ms c d) (hb:¬ begV m=false) (hc:8192≤c) :
 Calls Tryz.prog 83 #[.pointer (some ⟨r,0,none⟩)] w (VPost (.bad m.a 5) s r d w):=by
 have hk:=h.kcell
 have hcc:=h.ccell
 have hlt:=h.lt
 have H:=Lib.hid h
 have hc':(8192:Int)≤(c:Int):=by omega
 have hcs:=beg_cases hb
 clear hb h
 rcases hcs with e | e | e | e | e | e
 all_goals
  rw [e] at hk
  clear e
  go_enter Tryz.func83,Tryz.ntmps83
  go_wp2_with fail
  exact bodyPost_ret (v:=.tuple #[zeroV,.int .i64 5]) (by simp [results,Tryz.results83,go_sem,zeroV]) rfl ⟨grown_alloc (World.grownBy.refl _ _) _,rfl,(H.out.keep (bel_alloc (Below.refl _ _) _)).bad,by decide⟩
theorem value_leaf {w:World} {r:Nat} {s:ByteArray} {m:Mk} {ms:List Lx} {c:Nat} {d:Int} (h:StAt w r s m ms c d) (hcs:m.k=7∨m.k=8∨m.k=9∨m.k=10) (hc:c<8192) :
 Calls Tryz.prog 83 #[.pointer (some ⟨r,0,none⟩)] w (VPost (.ok (leafV m) ms (c+1)) s r d w):=by
 have hk:=h.kcell
 have hcc:=h.ccell
 have hlt:=h.lt
 have hn:=h.ncell
 have ht:=h.tcell
 have hf:=h.free
 have H:=Lib.hid h
 have hc':¬ (8192:Int)≤(c:Int):=by omega
 clear h
 obtain ⟨n0,n1,n2⟩:=H.out.mkb
 have HL:=Lib.hid (show ∀ k n t,leafV m=.mk k n t [] []→0≤k→k≤255→-9223372036854775808≤n→n≤9223372036854775807→t.size≤maxLen→NewV w.heap.size ((w.setCell ⟨r,8,none⟩ (.int .i64 ((c:Int)+1))).alloc (.cells #[.int .u8 k,.int .i64 n,.string t,.slice none 0 0,.slice none 0 0] 29)) (leafV m) (.agg #[.int .u8 k,.int .i64 n,.string t,.slice none 0 0,.slice none 0 0]) from
  fun k n t he k0 k1 n0 n1 ht=>by rw [he];exact valAt_leaf _ k n t k0 k1 n0 n1 ht)
 have HS:Hid (∀ v,StAt ((w.setCell ⟨r,8,none⟩ (.int .i64 ((c:Int)+1))).alloc (.cells v 29)) r s m ms ((c+1:Nat):Int) d):=fun v=>(H.out.count _).keep (bel_alloc (Below.refl _ _) _)
 have HG:Hid (∀ v,w.grownBy ((w.setCell ⟨r,8,none⟩ (.int .i64 ((c:Int)+1))).alloc (.cells v 29)) (some r)):=fun v=>grown_alloc (grown_set (World.grownBy.refl _ _) _ _) _
 clear H
 rcases hcs with e | e | e | e
 ·rw [e] at hk
  have HE:Hid (leafV m=.mk 1 1 ⟨#[]⟩ [] []):=by show _=_;unfold leafV;rw [if_pos e]
  have h11:m.k≠11:=by omega
  clear e
  go_enter Tryz.func83,Tryz.ntmps83
  go_wp2_with fail
  exact bodyPost_ret (v:=.tuple #[.agg #[.int .u8 1,.int .i64 1,.string ⟨#[]⟩,.slice none 0 0,.slice none 0 0],.int .i64 0]) (by simp [results,Tryz.results83,go_sem]) rfl ⟨HG.out _,⟨1,1,⟨#[]⟩,none,0,0,none,0,0⟩,m,rfl,HL.out _ _ _ HE.out (by decide) (by decide) (by decide) (by decide) (by decide),HS.out _,h11⟩
 ·rw [e] at hk
  have HE:Hid (leafV m=.mk 1 0 ⟨#[]⟩ [] []):=by show _=_;unfold leafV;rw [if_neg (by omega),if_pos e]
  have h11:m.k≠11:=by omega
  clear e
  go_enter Tryz.func83,Tryz.ntmps83
  go_wp2_with fail
  exact bodyPost_ret (v:=.tuple #[.agg #[.int .u8 1,.int .i64 0,.string ⟨#[]⟩,.slice none 0 0,.slice none 0 0],.int .i64 0]) (by simp [results,Tryz.results83,go_sem]) rfl ⟨HG.out _,⟨1,0,⟨#[]⟩,none,0,0,none,0,0⟩,m,rfl,HL.out _ _ _ HE.out (by decide) (by decide) (by decide) (by decide) (by decide),HS.out _,h11⟩
 ·rw [e] at hk
  have HE:Hid (leafV m=.mk 2 m.n ⟨#[]⟩ [] []):=by show _=_;unfold leafV;rw [if_neg (by omega),if_neg (by omega),if_pos e]
  have h11:m.k≠11:=by omega
  clear e
  go_enter Tryz.func83,Tryz.ntmps83
  go_wp2_with fail
  exact bodyPost_ret (v:=.tuple #[.agg #[.int .u8 2,.int .i64 m.n,.string ⟨#[]⟩,.slice none 0 0,.slice none 0 0],.int .i64 0]) (by simp [results,Tryz.results83,go_sem]) rfl ⟨HG.out _,⟨2,m.n,⟨#[]⟩,none,0,0,none,0,0⟩,m,rfl,HL.out _ _ _ HE.out (by decide) (by decide) n0 n1 (by decide),HS.out _,h11⟩
 ·rw [e] at hk
  have HE:Hid (leafV m=.mk 3 0 ⟨m.t.toArray⟩ [] []):=by show _=_;unfold leafV;rw [if_neg (by omega),if_neg (by omega),if_neg (by omega)];rfl
  have h11:m.k≠11:=by omega
  clear e
  go_enter Tryz.func83,Tryz.ntmps83
  go_wp2_with fail
  exact bodyPost_ret (v:=.tuple #[.agg #[.int .u8 3,.int .i64 0,.string ⟨m.t.toArray⟩,.slice none 0 0,.slice none 0 0],.int .i64 0]) (by simp [results,Tryz.results83,go_sem]) rfl ⟨HG.out _,⟨3,0,⟨m.t.toArray⟩,none,0,0,none,0,0⟩,m,rfl,HL.out _ _ _ HE.out (by decide) (by decide) (by decide) (by decide) (by show m.t.length≤_;unfold maxLen;omega),HS.out _,h11⟩
theorem value_deep {w:World} {r:Nat} {s:ByteArray} {m:Mk} {ms:List Lx} {c:Nat} {d:Int} (h:StAt w r s m ms c d) (hcs:m.k=1∨m.k=3) (hc:c<8192) (hd:12≤d) :
 Calls Tryz.prog 83 #[.pointer (some ⟨r,0,none⟩)] w (VPost (.bad m.a 8) s r d w):=by
 have hk:=h.kcell
 have hcc:=h.ccell
 have hdc:=h.dcell
 have hlt:=h.lt
 have hf:=h.free
 have H:=Lib.hid h
 have hc':¬ (8192:Int)≤(c:Int):=by omega
 clear h
 rcases hcs with e | e
 all_goals
  rw [e] at hk
  clear e
  go_enter Tryz.func83,Tryz.ntmps83
  go_wp2_with fail
  exact bodyPost_ret (v:=.tuple #[zeroV,.int .i64 8]) (by simp [results,Tryz.results83,go_sem,zeroV]) rfl ⟨grown_alloc (grown_set (World.grownBy.refl _ _) _ _) _,rfl,((H.out.count _).keep (bel_alloc (Below.refl _ _) _)).bad,by decide⟩
end

section
set_option maxRecDepth 100000
open Go.RowKit
theorem infoVal:(Tryz.prog.info? 29).map (fun i=>(i.zero,i.size,i.bytes))=some (some zeroV,5,80):=by kernel_rfl
theorem ItemsOwn.snoc {wr w1 w5:World} {B:Nat} {vI v':Value} {xs:List XI} {x:VC} {V:JV} (h:ItemsOwn wr B vI xs) (hx:NewV wr.heap.size w1 V x.val) (hB:B≤wr.heap.size) (hsz:wr.heap.size≤w1.heap.size)
 (hv:v'.ownBlock=vI.ownBlock∨∃ g,v'.ownBlock=some g∧w1.heap.size≤g) (hown:w5.ownsRow B 29 5 v' (xs.length+1) (xiCells xs++x.cells))
 (hk:∀ k,k<w1.heap.size→B≤k→vI.ownBlock≠some k→w5.heap[k]?=w1.heap[k]?) (hk0:∀ k,k<wr.heap.size→B≤k→w1.heap[k]?=wr.heap[k]?):ItemsOwn w5 B v' (xs++[(x,V)]):=by
 have hne:∀ k,k<w1.heap.size→vI.ownBlock≠some k→v'.ownBlock≠some k:=fun k hk1 hk2=>by
  rcases hv with e | ⟨g,e,hg⟩
  ·rw [e];exact hk2
  ·rw [e];intro e2;cases e2;omega
 refine ⟨by rw [List.length_append,xiCells_snoc];exact hown,fun y hy=>?_⟩
 rw [List.mem_append] at hy
 rcases hy with hy | hy
 ·refine (h.2 y hy).carry fun k hk1 hk2=>?_
  obtain ⟨a,b⟩:=offB_no.1 hk2
  exact ⟨offB_no.2 ⟨a,hne k (by omega) b⟩,(hk k (by omega) a b).trans (hk0 k hk1 a)⟩
 ·simp only [List.mem_singleton] at hy
  subst hy
  refine ValAt.carry hx fun k hk1 hk2=>?_
  have a:=offB_none.1 hk2
  have b:vI.ownBlock≠some k:=fun e=>by
   have:=(World.ownsRow.lt h.1 k e).2
   omega
  exact ⟨offB_no.2 ⟨by omega,hne k hk1 b⟩,hk k hk1 (by omega) b⟩
theorem ItemsOwn.set {w:World} {B b:Nat} {v:Value} {xs:List XI} (h:ItemsOwn w B v xs) (hb:b<B) (i:Nat) (u:Value):ItemsOwn (w.setCell ⟨b,i,none⟩ u) B v xs :=
 h.kept hb (grown_set (World.grownBy.refl _ _) _ _)
def ValC (B:World) (s:ByteArray) (r d:Nat):Prop:=∀ (w:World) (m:Mk) (ms:List Lx) (c:Nat),Bas B w r→StAt w r s m ms c (12 - d:Int)→Calls Tryz.prog 83 #[.pointer (some ⟨r,0,none⟩)] w (VPost (valP d m ms c) s r (12 - d:Int) w)
theorem blk5 {w:World} {b:Nat} {T:TypeId} {v0 v1 v2 v3 v4:Value} (h:BlkAt w b T #[v0,v1,v2,v3,v4]) :
 w.cell? ⟨b,0,none⟩=some v0∧w.cell? ⟨b,1,none⟩=some v1∧w.cell? ⟨b,2,none⟩=some v2∧w.cell? ⟨b,3,none⟩=some v3∧w.cell? ⟨b,4,none⟩=some v4∧∀ i,w.frozen? ⟨b,i,none⟩=false :=
 ⟨h.cell 0,h.cell 1,h.cell 2,h.cell 3,h.cell 4,h.free⟩
theorem heap_set5 (w:World) (b k:Nat) (v0 v1 v2 v3 v4:Value) (h:k≠b) :
 (((((w.setCell ⟨b,0,none⟩ v0).setCell ⟨b,1,none⟩ v1).setCell ⟨b,2,none⟩ v2).setCell ⟨b,3,none⟩ v3).setCell ⟨b,4,none⟩ v4).heap[k]?=w.heap[k]?:=by
 rw [Below.heap_setCell _ _ _ _ h,Below.heap_setCell _ _ _ _ h,Below.heap_setCell _ _ _ _ h,Below.heap_setCell _ _ _ _ h,Below.heap_setCell _ _ _ _ h]
theorem grown_set5 {w w':World} {r b:Nat} (h:w.grownBy w' (some r)) (hb:w.heap.size≤b) (v0 v1 v2 v3 v4:Value) :
 w.grownBy (((((w'.setCell ⟨b,0,none⟩ v0).setCell ⟨b,1,none⟩ v1).setCell ⟨b,2,none⟩ v2).setCell ⟨b,3,none⟩ v3).setCell ⟨b,4,none⟩ v4) (some r) :=
 grown_set_new (grown_set_new (grown_set_new (grown_set_new (grown_set_new h hb _ _) hb _ _) hb _ _) hb _ _) hb _ _
def zeroCs:Array Value:=#[.int .u8 0,.int .i64 0,.string ⟨#[]⟩,.slice none 0 0,.slice none 0 0]
theorem ItemsAt.carry {P Q:Nat→Bool} {w w':World} {l:List JV} {v:Value} (h:ItemsAt (hidden P w) v l) (hk:∀ k,k<w.heap.size→P k=false→Q k=false∧w'.heap[k]?=w.heap[k]?):ItemsAt (hidden Q w') v l:=by
 have h1:ValAt (hidden P w) (.mk 0 0 ⟨#[]⟩ [] l) (.agg #[.int .u8 0,.int .i64 0,.string ⟨#[]⟩,.slice none 0 0,v]):=valAt_mk (by decide) (by decide) (by decide) (by decide) (by decide) (strsAt_nil _) h
 obtain ⟨vn,vi,e,-,-,-,-,-,-,hi⟩:=valAt_iff.1 (h1.carry hk)
 simp only [Value.agg.injEq,Array.mk.injEq,List.cons.injEq] at e
 obtain ⟨-,-,-,-,rfl,-⟩:=e
 exact hi
theorem blkAt_new (w:World) (cs:Array Value) (T:TypeId):BlkAt (w.alloc (.cells cs T)) w.heap.size T cs:=heap_alloc_last w _
theorem moreQ_go {last:Int} {ms r:List Lx} {m:Mk} (h:moreQ last ms=.go m r):∃ m2,ms=.tok m2 :: .tok m :: r:=by
 unfold moreQ at h
 match ms with
 | []=>simp at h
 | .err p e :: tl=>simp at h
 | .tok m2 :: r2 =>
   dsimp only at h
   by_cases h1:m2.k=last
   ·rw [if_pos h1] at h;simp at h
   rw [if_neg h1] at h
   by_cases h2:m2.k=5
   ·rw [if_pos h2] at h
    match r2 with
    | []=>simp at h
    | .err p e :: tl=>simp at h
    | .tok m3 :: r3 =>
      simp only [MQ.go.injEq] at h
      obtain ⟨rfl,rfl⟩:=h
      exact ⟨m2,rfl⟩
   ·rw [if_neg h2] at h;simp at h
theorem moreQ_fin {last:Int} {ms r:List Lx} {m:Mk} (h:moreQ last ms=.fin m r):m.k=last:=by
 unfold moreQ at h
 match ms with
 | []=>simp at h
 | .err p e :: tl=>simp at h
 | .tok m2 :: r2 =>
   dsimp only at h
   by_cases h1:m2.k=last
   ·rw [if_pos h1] at h
    simp only [MQ.fin.injEq] at h
    rw [← h.1];exact h1
   rw [if_neg h1] at h
   by_cases h2:m2.k=5
   ·rw [if_pos h2] at h
    match r2 with
    | []=>simp at h
    | .err p e :: tl=>simp at h
    | .tok m3 :: r3=>simp at h
   ·rw [if_neg h2] at h;simp at h
theorem list_any {B w:World} {r d:Nat} {s:ByteArray} {m:Mk} {ms:List Lx} {c:Nat} (hs:s.size≤65536) (hV:ValC B s r d) (hB:Bas B w r) (h:StAt w r s m ms c (12 - d:Int)) (hk:m.k≠11) (hc:c≤8192) (R:PR JV) (hR:Hid (listP (valP d) ms c=R)) :
 Calls Tryz.prog 112 #[.pointer (some ⟨r,0,none⟩)] w (VPost R s r (12 - d:Int) w):=by
 have hlt:=h.lt
 obtain ⟨dd,hdd⟩:∃ dd:Int,(12 - d:Int)=dd:=⟨_,rfl⟩
 have HDD:=Lib.hid hdd
 rw [hdd] at h ⊢
 have hrb0:BlkAt ((w.alloc (.cells zeroCs 29)).alloc (.cells #[.int .u8 4,.int .i64 0,.string ⟨#[]⟩,.slice none 0 0,.slice none 0 0] 29)) w.heap.size 29 zeroCs:=(blkAt_new w zeroCs _).alloc _
 have hvb0:BlkAt ((w.alloc (.cells zeroCs 29)).alloc (.cells #[.int .u8 4,.int .i64 0,.string ⟨#[]⟩,.slice none 0 0,.slice none 0 0] 29)) (w.heap.size+1) 29 #[.int .u8 4,.int .i64 0,.string ⟨#[]⟩,.slice none 0 0,.slice none 0 0]:=by
  have:=blkAt_new (w.alloc (.cells zeroCs 29)) #[.int .u8 4,.int .i64 0,.string ⟨#[]⟩,.slice none 0 0,.slice none 0 0] 29
  rwa [size_al] at this
 have hb0:Below w.heap.size w ((w.alloc (.cells zeroCs 29)).alloc (.cells #[.int .u8 4,.int .i64 0,.string ⟨#[]⟩,.slice none 0 0,.slice none 0 0] 29)):=bel_alloc (bel_alloc (Below.refl _ _) _) _
 have hs0:((w.alloc (.cells zeroCs 29)).alloc (.cells #[.int .u8 4,.int .i64 0,.string ⟨#[]⟩,.slice none 0 0,.slice none 0 0] 29)).heap.size=w.heap.size+2:=by rw [size_al,size_al]
 match ms with
 | []=>exact absurd h.nonil hk
 | .err p e :: tl =>
   have hne:=h.err
   have heb:(e != 0)=true:=by rw [bne_iff_ne];exact hne
   have hr:=hR.out
   subst hr
   have HN:=Lib.hid (next_err hs (hB.grown (grown_of hb0 _)) (h.keep hb0) hk (Lib.hid rfl))
   have HRB:=Lib.hid hrb0
   have HB0:=Lib.hid hb0
   clear hR hB h hb0 hrb0 hvb0 hs0 hdd
   go_enter Tryz.func112,Tryz.ntmps112
   go_wp2_with fail
   refine HN.out.mono ?_
   rintro e' w' ⟨rfl,hg,hb⟩
   obtain ⟨z0,z1,z2,z3,z4,zf⟩:=blk5 (HRB.out.grown hg (by intro e;cases e;omega))
   have hg':w.grownBy w' (some r):=(grown_of HB0.out _).trans hg
   go_wp2_with fail
   exact bodyPost_ret (v:=.tuple #[zeroV,.int .i64 e]) (by simp [results,Tryz.results112,go_sem,zeroV,z0,z1,z2,z3,z4]) rfl ⟨grown_set5 hg' (Nat.le_refl _) _ _ _ _ _,rfl,hb.same (heap_set5 _ _ _ _ _ _ _ _ (by omega)),hne⟩
 | .tok m2 :: r2 =>
   have HN:=Lib.hid (next_tok hs (hB.grown (grown_of hb0 _)) (h.keep hb0) hk (Lib.hid rfl))
   have HRB:=Lib.hid hrb0
   have HVB:=Lib.hid hvb0
   have HB0:=Lib.hid hb0
   have HS0:=Lib.hid hs0
   have HBas:=Lib.hid hB
   have HDD:=Lib.hid hdd
   have hr:=hR.out
   unfold listP at hr
   dsimp only [nextL] at hr
   by_cases h4:m2.k=4
   ·rw [if_pos h4] at hr
    subst hr
    have hb4:(m2.k == 4)=true:=by rw [h4];rfl
    have h11:m2.k≠11:=by omega
    clear hR hB h hb0 hrb0 hvb0 hs0 hdd h4
    go_enter Tryz.func112,Tryz.ntmps112
    go_wp2_with fail
    refine HN.out.mono ?_
    rintro e' w' ⟨rfl,hg,hst⟩
    obtain ⟨z0,z1,z2,z3,z4,zf⟩:=blk5 (HRB.out.grown hg (by intro e;cases e;omega))
    obtain ⟨y0,y1,y2,y3,y4,yf⟩:=blk5 (HVB.out.grown hg (by intro e;cases e;omega))
    have hg':w.grownBy w' (some r):=(grown_of HB0.out _).trans hg
    have hkc:=hst.kcell
    have HST:=Lib.hid hst
    clear hst
    go_wp2_with fail
    exact bodyPost_ret (v:=.tuple #[.agg #[.int .u8 4,.int .i64 0,.string ⟨#[]⟩,.slice none 0 0,.slice none 0 0],.int .i64 0]) (by simp [results,Tryz.results112,go_sem,z0,z1,z2,z3,z4]) rfl ⟨grown_set5 hg' (Nat.le_refl _) _ _ _ _ _,⟨4,0,⟨#[]⟩,none,0,0,none,0,0⟩,m2,rfl,valAt_leaf _ 4 0 ⟨#[]⟩ (by decide) (by decide) (by decide) (by decide) (by decide),HST.out.same (heap_set5 _ _ _ _ _ _ _ _ (by omega)),h11⟩
   ·rw [if_neg h4] at hr
    have HRR:Hid (itemsP (valP d) (r2.length+1) m2 r2 c []=R):=hr
    have hb4:(m2.k == 4)=false:=beq_eq_false_iff_ne.2 h4
    obtain ⟨i0,hi,hz0,hz1,hz2⟩:=info_parts infoVal
    have HI:=Lib.hid hi
    have HZ0:=Lib.hid hz0
    have HZ1:=Lib.hid hz1
    have HZ2:=Lib.hid hz2
    clear hr hR hB h hb0 hrb0 hvb0 hs0 hdd h4 hi hz0 hz1 hz2
    go_enter Tryz.func112,Tryz.ntmps112
    go_wp2_with fail
    refine HN.out.mono ?_
    rintro e' w' ⟨rfl,hg,hst⟩
    have HZB:Hid (BlkAt w' w.heap.size 29 zeroCs):=HRB.out.grown hg (by intro e;cases e;omega)
    have HYB:Hid (BlkAt w' (w.heap.size+1) 29 #[.int .u8 4,.int .i64 0,.string ⟨#[]⟩,.slice none 0 0,.slice none 0 0]):=HVB.out.grown hg (by intro e;cases e;omega)
    have hg':w.grownBy w' (some r):=(grown_of HB0.out _).trans hg
    have hs2:w.heap.size+2≤w'.heap.size:=by have:=hg.size;rw [HS0.out] at this;exact this
    have hkc:=hst.kcell
    have HST:=Lib.hid hst
    clear hst hg HN HRB HVB HB0 HS0
    go_wp2_with fail
    clear hkc
    go_loopg [7] r2.length (fun gk u wr=>∃ (mk:Mk) (ms':List Lx) (c':Nat) (xs:List XI) (a:Option Addr) (l cp f:Nat),gk=ms'.length∧ms'.length<f∧xs.length≤c'∧c'≤8192∧w.heap.size+2≤wr.heap.size∧Hid (StAt wr r s mk ms' c' dd)∧Hid (BlkAt wr w.heap.size 29 zeroCs) ∧
     Hid (BlkAt wr (w.heap.size+1) 29 #[.int .u8 4,.int .i64 0,.string ⟨#[]⟩,.slice none 0 0,.slice a l cp])∧Hid (ItemsOwn wr (w.heap.size+2) (.slice a l cp) xs)∧Hid (w.grownBy wr (some r))∧Hid (itemsP (valP d) f mk ms' c' (xs.map Prod.snd)=R))
    case atStart=>exact ⟨m2,r2,c,[],none,0,0,r2.length+1,rfl,by omega,by simp,hc,hs2,HST,HZB,HYB,ItemsOwn.nil _ _,hg',HRR⟩
    case round =>
     obtain ⟨mk,ms',c',xs,a,l,cp,f,rfl,hf,hxs,hc',hs3,HSt,HZb,HYb,HIt,HGr,HRr⟩:=hrel
     clear HST HZB HYB hg' HRR hs2
     obtain ⟨f',rfl⟩:∃ f',f=f'+1:=⟨f - 1,by omega⟩
     obtain ⟨R1,hR1⟩:∃ R1,valP d mk ms' c'=R1:=⟨_,rfl⟩
     have HC:=Lib.hid (hV wr mk ms' c' (HBas.out.grown HGr.out) (by rw [HDD.out];exact HSt.out))
     rw [HDD.out,hR1] at HC
     have hstep:=HRr.out
     rw [itemsP,hR1] at hstep
     cases R1 with
     | bad p er =>
       dsimp only at hstep
       subst hstep
       clear hR1 HRr
       go_wp2_with fail
       refine HC.out.mono ?_
       rintro e' w1 ⟨hg1,rfl,hbad,hne⟩
       have heb:(er != 0)=true:=by rw [bne_iff_ne];exact hne
       have hs1:=hg1.size
       have hZ1:=HZb.out.grown hg1 (by intro e;cases e;omega)
       obtain ⟨z0,z1,z2,z3,z4,zf⟩:=blk5 (hZ1.alloc (.cells #[.int .u8 0,.int .i64 0,.string ⟨#[]⟩,.slice none 0 0,.slice none 0 0] 29))
       have hg2:=HGr.out.trans hg1
       simp only [zeroV]
       go_wp2_with fail
       have hr1:r<w1.heap.size:=by omega
       exact bodyPost_ret (v:=.tuple #[zeroV,.int .i64 er]) (by simp [results,Tryz.results112,go_sem,zeroV,z0,z1,z2,z3,z4]) rfl ⟨grown_set5 (grown_alloc hg2 _) (Nat.le_refl _) _ _ _ _ _,rfl,hbad.same ((heap_set5 _ _ _ _ _ _ _ _ (by omega)).trans ((bel_alloc (Below.refl w1.heap.size w1) _).block r hr1)),hne⟩
     | ok V ms1 c1 =>
       dsimp only at hstep
       rw [moreP_Q] at hstep
       obtain ⟨hcnt1,hcnt2⟩:=val_count d _ _ _ _ _ _ hR1
       obtain ⟨pre1,-,hpre,-⟩:=val_takes d _ _ _ _ _ _ hR1
       have hml:ms'.length=pre1.length+ms1.length:=by rw [hpre,List.length_append]
       obtain ⟨R2,hR2⟩:∃ R2,moreQ 4 ms1=R2:=⟨_,rfl⟩
       rw [hR2] at hstep
       have HR2:=Lib.hid hR2
       have HSTEP:=Lib.hid hstep
       have HML:=Lib.hid hml
       clear hR1 HRr hR2 hstep hpre hml
       go_wp2_with fail
       refine HC.out.mono ?_
       rintro e' w1 ⟨hg1,⟨xk,xn,xt,xa,xl,xc,xb,xm,xe⟩,m1,rfl,hnew,hst1,hk1⟩
       simp only [VC.val]
       have hs1:=hg1.size
       have HZ1b:Hid (BlkAt w1 w.heap.size 29 zeroCs):=HZb.out.grown hg1 (by intro e;cases e;omega)
       have HY1b:Hid (BlkAt w1 (w.heap.size+1) 29 #[.int .u8 4,.int .i64 0,.string ⟨#[]⟩,.slice none 0 0,.slice a l cp]):=HYb.out.grown hg1 (by intro e;cases e;omega)
       have HI1:Hid (ItemsOwn w1 (w.heap.size+2) (.slice a l cp) xs):=HIt.out.kept (by omega) hg1
       have HG1:Hid (w.grownBy w1 (some r)):=HGr.out.trans hg1
       have HGq:=Lib.hid hg1
       have HSt1:=Lib.hid hst1
       have HNew:=Lib.hid hnew
       clear hg1 hst1 hnew HC
       obtain ⟨-,-,-,-,y4,yf⟩:=blk5 (HY1b.out.alloc (.cells #[.int .u8 xk,.int .i64 xn,.string xt,.slice xa xl xc,.slice xb xm xe] 29))
       go_wp2_with (at_builtin;refine wpList_append_own_at _ rfl _ _ 27 rfl (w.heap.size+2) 29 i0 zeroV 5 80 Tryz.underlying27 HI.out HZ0.out HZ1.out HZ2.out rfl (by decide) _ _ _ rfl (World.ownsRow.alloc (World.ownsRow.alloc HI1.out.1 _) _) ⟨w1.heap.size+1,0,none⟩ 1 1 [.int .u8 xk,.int .i64 xn,.string xt,.slice xa xl xc,.slice xb xm xe] rfl rfl ?c1 ?c2 ?c3 ?c4 ?c5 ?_)
       case c1 =>
        intro j u hj
        have hadd:(⟨w1.heap.size+1,0,none⟩:Addr).add j=⟨w1.heap.size+1,j,none⟩:=by unfold Addr.add;split <;> simp_all
        rw [hadd,cell_al_eq _ _ _ _ _ (by rw [size_al])]
        simpa using hj
       case c2 =>
        intro u hu
        simp only [List.mem_cons,List.not_mem_nil,or_false] at hu
        rcases hu with rfl | rfl | rfl | rfl | rfl <;> rfl
       case c3=>unfold maxLen;omega
       case c4=>omega
       case c5=>rw [size_al,size_al];omega
       intro v' w4 hown4 hgrow _ hblk
       obtain ⟨g',cp',rfl,-,-⟩:=World.ownsRow.form hown4 (by omega)
       have hwa:∀ k,k<w1.heap.size→((w1.alloc (.cells #[.int .u8 xk,.int .i64 xn,.string xt,.slice xa xl xc,.slice xb xm xe] 29)).alloc (.cells #[.int .u8 xk,.int .i64 xn,.string xt,.slice xa xl xc,.slice xb xm xe] 29)).heap[k]?=w1.heap[k]?:=fun k hk=>(bel_alloc (bel_alloc (Below.refl _ _) _) _).block k hk
       have hwb:∀ k,k<w1.heap.size→(Value.slice a l cp).ownBlock≠some k→w4.heap[k]?=w1.heap[k]?:=fun k hk hne=>(hgrow.block k (by rw [size_al,size_al];omega) (fun e=>hne e.symm)).trans (hwa k hk)
       have hlo:∀ k,k<w.heap.size+2→(Value.slice a l cp).ownBlock≠some k:=fun k hk e=>by have:=(World.ownsRow.lt HI1.out.1 k e).1;omega
       have hs4:w1.heap.size+2≤w4.heap.size:=by have:=hgrow.size;rw [size_al,size_al] at this;omega
       have HZ4:Hid (BlkAt w4 w.heap.size 29 zeroCs):=(hwb _ (by omega) (hlo _ (by omega))).trans HZ1b.out
       have HY4:Hid (BlkAt w4 (w.heap.size+1) 29 #[.int .u8 4,.int .i64 0,.string ⟨#[]⟩,.slice none 0 0,.slice a l cp]):=(hwb _ (by omega) (hlo _ (by omega))).trans HY1b.out
       have HS4:Hid (StAt w4 r s m1 ms1 c1 dd):=HSt1.out.same (hwb _ (by omega) (hlo _ (by omega)))
       have HG4:Hid (w.grownBy w4 (some r)):=⟨hgrow.os.trans HG1.out.os,hgrow.tape.trans HG1.out.tape,hgrow.output.trans HG1.out.output,by omega,fun k hk hne=>(hwb k (by omega) (hlo k (by omega))).trans (HG1.out.block k hk hne)⟩
       have HI4:Hid (ItemsOwn w4 (w.heap.size+2) (.slice (some ⟨g',0,none⟩) (xs.length+1) cp') (xs++[(⟨xk,xn,xt,xa,xl,xc,xb,xm,xe⟩,V)])) :=
        ItemsOwn.snoc HIt.out HNew.out hs3 hs1 (hblk.imp_right fun e=>⟨_,e,by omega⟩) hown4 (fun k hk _ hne=>hwb k hk hne) (fun k hk hB=>HGq.out.block k hk (fun e=>by cases e;omega))
       obtain ⟨-,-,-,-,q4,qf⟩:=blk5 HY4.out
       clear hown4 hgrow hblk hwa hwb HI1 HZ1b HY1b HSt1 HNew HGq HG1 HIt HGr HYb HZb HSt yf y4
       go_wp2_with fail
       have hwc:∀ k,k≠w.heap.size+1→(w4.setCell ⟨w.heap.size+1,4,none⟩ (.slice (some ⟨g',0,none⟩) (xs.length+1) cp')).heap[k]?=w4.heap[k]?:=fun k hk=>Below.heap_setCell _ _ _ _ hk
       have HZ5:Hid (BlkAt (w4.setCell ⟨w.heap.size+1,4,none⟩ (.slice (some ⟨g',0,none⟩) (xs.length+1) cp')) w.heap.size 29 zeroCs):=(hwc _ (by omega)).trans HZ4.out
       have HY5:Hid (BlkAt (w4.setCell ⟨w.heap.size+1,4,none⟩ (.slice (some ⟨g',0,none⟩) (xs.length+1) cp')) (w.heap.size+1) 29 #[.int .u8 4,.int .i64 0,.string ⟨#[]⟩,.slice none 0 0,.slice (some ⟨g',0,none⟩) (xs.length+1) cp']):=BlkAt.set HY4.out 4 _
       have HS5:Hid (StAt (w4.setCell ⟨w.heap.size+1,4,none⟩ (.slice (some ⟨g',0,none⟩) (xs.length+1) cp')) r s m1 ms1 c1 dd):=HS4.out.same (hwc _ (by omega))
       have HG5:Hid (w.grownBy (w4.setCell ⟨w.heap.size+1,4,none⟩ (.slice (some ⟨g',0,none⟩) (xs.length+1) cp')) (some r)):=grown_set_new HG4.out (by omega) _ _
       have HI5:Hid (ItemsOwn (w4.setCell ⟨w.heap.size+1,4,none⟩ (.slice (some ⟨g',0,none⟩) (xs.length+1) cp')) (w.heap.size+2) (.slice (some ⟨g',0,none⟩) (xs.length+1) cp') (xs++[(⟨xk,xn,xt,xa,xl,xc,xb,xm,xe⟩,V)])):=HI4.out.set (by omega) _ _
       have hs5:w1.heap.size+2≤(w4.setCell ⟨w.heap.size+1,4,none⟩ (.slice (some ⟨g',0,none⟩) (xs.length+1) cp')).heap.size:=by show _≤(w4.heap.modify _ _).size;rw [Array.size_modify];exact hs4
       generalize w4.setCell ⟨w.heap.size+1,4,none⟩ (.slice (some ⟨g',0,none⟩) (xs.length+1) cp')=w5 at HZ5 HY5 HS5 HG5 HI5 hs5 ⊢
       clear hwc HZ4 HY4 HS4 HG4 HI4 hs4 qf q4 hlo
       have HM:=Lib.hid (more_any hs (HBas.out.grown HG5.out) HS5.out hk1 4 R2 HR2)
       cases R2 with
       | bad p er =>
         have hfin:=HSTEP.out
         dsimp only at hfin
         subst hfin
         refine HM.out.mono ?_
         rintro e' w6 ⟨hg6,rfl,hbad,hne⟩
         have heb:(er != 0)=true:=by rw [bne_iff_ne];exact hne
         have hs6:=hg6.size
         obtain ⟨z0,z1,z2,z3,z4,zf⟩:=blk5 (HZ5.out.grown hg6 (by intro e;cases e;omega))
         have hg':=HG5.out.trans hg6
         go_wp2_with fail
         exact bodyPost_ret (v:=.tuple #[zeroV,.int .i64 er]) (by simp [results,Tryz.results112,go_sem,zeroV,z0,z1,z2,z3,z4]) rfl ⟨grown_set5 hg' (Nat.le_refl _) _ _ _ _ _,rfl,hbad.same (heap_set5 _ _ _ _ _ _ _ _ (by omega)),hne⟩
       | fin m6 ms6 =>
         have hfin:=HSTEP.out
         dsimp only at hfin
         subst hfin
         refine HM.out.mono ?_
         rintro e' w6 ⟨hg6,rfl,hst6⟩
         have hs6:=hg6.size
         obtain ⟨z0,z1,z2,z3,z4,zf⟩:=blk5 (HZ5.out.grown hg6 (by intro e;cases e;omega))
         obtain ⟨y0,y1,y2,y3,y4,yf⟩:=blk5 (HY5.out.grown hg6 (by intro e;cases e;omega))
         have hg':=HG5.out.trans hg6
         have HI6:Hid (ItemsOwn w6 (w.heap.size+2) (.slice (some ⟨g',0,none⟩) (xs.length+1) cp') (xs++[(⟨xk,xn,xt,xa,xl,xc,xb,xm,xe⟩,V)])):=HI5.out.kept (by omega) hg6
         have HST:=Lib.hid hst6
         have h11:m6.k≠11:=by have:=moreQ_fin HR2.out;omega
         clear hst6
         go_wp2_with fail
         have hnew:NewV w.heap.size (((((w6.setCell ⟨w.heap.size,0,none⟩ (.int .u8 4)).setCell ⟨w.heap.size,1,none⟩ (.int .i64 0)).setCell ⟨w.heap.size,2,none⟩ (.string ⟨#[]⟩)).setCell ⟨w.heap.size,3,none⟩ (.slice none 0 0)).setCell ⟨w.heap.size,4,none⟩ (.slice (some ⟨g',0,none⟩) (xs.length+1) cp')) (listV (xs.map Prod.snd++[V])) (.agg #[.int .u8 4,.int .i64 0,.string ⟨#[]⟩,.slice none 0 0,.slice (some ⟨g',0,none⟩) (xs.length+1) cp']):=by
          have hout:=HI6.out.out (by rw [List.length_append];simp;omega)
          rw [List.map_append] at hout
          exact valAt_mk (by decide) (by decide) (by decide) (by decide) (by decide) (strsAt_nil _) (hout.carry fun k hk hP=>⟨offB_none.2 (by have:=offB_none.1 hP;omega),heap_set5 _ _ _ _ _ _ _ _ (by have:=offB_none.1 hP;omega)⟩)
         exact bodyPost_ret (v:=.tuple #[.agg #[.int .u8 4,.int .i64 0,.string ⟨#[]⟩,.slice none 0 0,.slice (some ⟨g',0,none⟩) (xs.length+1) cp'],.int .i64 0]) (by simp [results,Tryz.results112,go_sem,z0,z1,z2,z3,z4]) rfl ⟨grown_set5 hg' (Nat.le_refl _) _ _ _ _ _,⟨4,0,⟨#[]⟩,none,0,0,some ⟨g',0,none⟩,xs.length+1,cp'⟩,m6,rfl,hnew,HST.out.same (heap_set5 _ _ _ _ _ _ _ _ (by omega)),h11⟩
       | go m6 ms6 =>
         have hfin:=HSTEP.out
         dsimp only at hfin
         have HFIN:=Lib.hid hfin
         obtain ⟨mc,hmc⟩:=moreQ_go HR2.out
         have hlen:ms1.length=ms6.length+2:=by rw [hmc];simp
         have hml:=HML.out
         clear hfin hmc
         refine HM.out.mono ?_
         rintro e' w6 ⟨hg6,rfl,hst6⟩
         have hs6:=hg6.size
         have HZ6:Hid (BlkAt w6 w.heap.size 29 zeroCs):=HZ5.out.grown hg6 (by intro e;cases e;omega)
         have HY6:Hid (BlkAt w6 (w.heap.size+1) 29 #[.int .u8 4,.int .i64 0,.string ⟨#[]⟩,.slice none 0 0,.slice (some ⟨g',0,none⟩) (xs.length+1) cp']):=HY5.out.grown hg6 (by intro e;cases e;omega)
         have HG6:Hid (w.grownBy w6 (some r)):=HG5.out.trans hg6
         have HI6:Hid (ItemsOwn w6 (w.heap.size+2) (.slice (some ⟨g',0,none⟩) (xs.length+1) cp') (xs++[(⟨xk,xn,xt,xa,xl,xc,xb,xm,xe⟩,V)])):=HI5.out.kept (by omega) hg6
         have HST:=Lib.hid hst6
         clear hst6
         go_wp2_with fail
         go_roundg ms6.length
         case rel=>exact ⟨m6,ms6,c1,xs++[(⟨xk,xn,xt,xa,xl,xc,xb,xm,xe⟩,V)],_,_,_,f',rfl,by omega,by rw [List.length_append,List.length_singleton];omega,hcnt2,by omega,HST,HZ6,HY6,HI6,HG6,by rw [List.map_append];exact HFIN⟩
         case measure=>omega
end
end Go.Proofs.YtchinankclckjaaGreatDoor
