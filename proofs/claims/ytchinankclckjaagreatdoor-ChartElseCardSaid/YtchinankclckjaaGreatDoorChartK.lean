/-
  read.values.value, whole, and read.Read.
  chart.Read: the map of a text.
-/
import Derived.Test.YtchinankclckjaaGreatDoorReadSorted
import Derived.Test.YtchinankclckjaaGreatDoorChartQ
namespace Go.Proofs.YtchinankclckjaaGreatDoor
set_option maxHeartbeats 8000000
section
set_option maxRecDepth 100000
open Go.RowKit Go.WideMaps Go.Maps
theorem size_set (w:World) (p:Addr) (v:Value):(w.setCell p v).heap.size=w.heap.size:=by
 show (w.heap.modify _ _).size=_
 rw [Array.size_modify]
theorem StBad.depth {w:World} {r:Nat} {s:ByteArray} {p:Nat} (h:StBad w r s p) (d':Int):StBad (w.setCell ⟨r,9,none⟩ (.int .i64 d')) r s p:=by
 obtain ⟨k,x,z,n,t,af,c,d,h⟩:=h
 exact ⟨k,x,z,n,t,af,c,d',BlkAt.set h 9 _⟩
theorem value_go {B w:World} {r d:Nat} {s:ByteArray} {m:Mk} {ms:List Lx} {c:Nat} (hs:s.size≤65536) (hd:d+1≤12) (hV:ValC B s r d) (hB:Bas B w r) (h:StAt w r s m ms c (12 - (d+1:Nat):Int)) (hk:m.k=1∨m.k=3) (hc:c<8192) (R:PR JV) (hR:Hid ((if m.k=3 then listP (valP d) ms (c+1) else objP (valP d) ms (c+1))=R)) :
 Calls Tryz.prog 83 #[.pointer (some ⟨r,0,none⟩)] w (VPost R s r (12 - (d+1:Nat):Int) w):=by
 have hlt:=h.lt
 have hkc:=h.kcell
 have hcc:=h.ccell
 have hdc:=h.dcell
 have hf:=h.free
 have hc':¬ (8192:Int)≤(c:Int):=by omega
 obtain ⟨dd,hdd⟩:∃ dd:Int,(12 - (d+1:Nat):Int)=dd:=⟨_,rfl⟩
 have hdd1:(12 - d:Int)=dd+1:=by omega
 have hdb:¬ (12:Int)≤dd:=by omega
 have hd0:0≤dd:=by omega
 rw [hdd] at h hdc ⊢
 have hW1:StAt (((w.setCell ⟨r,8,none⟩ (.int .i64 ((c:Int)+1))).setCell ⟨r,9,none⟩ (.int .i64 (dd+1)))) r s m ms ((c+1:Nat):Int) (12 - d:Int):=by
  rw [hdd1]
  exact (h.count _).depth _
 have HW1:=Lib.hid hW1
 have HB:=Lib.hid hB
 have HDD1:=Lib.hid hdd1
 have h11:m.k≠11:=by omega
 clear h hW1 hB hdd hdd1
 have hsz0:((w.setCell ⟨r,8,none⟩ (.int .i64 ((c:Int)+1))).setCell ⟨r,9,none⟩ (.int .i64 (dd+1))).heap.size=w.heap.size:=by
  rw [size_set,size_set]
 have HG0:Hid (w.grownBy ((((w.setCell ⟨r,8,none⟩ (.int .i64 ((c:Int)+1))).setCell ⟨r,9,none⟩ (.int .i64 (dd+1))).alloc (.cells zeroCs 29)).alloc (.cells zeroCs 29)) (some r)):=grown_alloc (grown_alloc (grown_set (grown_set (World.grownBy.refl _ _) _ _) _ _) _) _
 have HSt0:Hid (StAt ((((w.setCell ⟨r,8,none⟩ (.int .i64 ((c:Int)+1))).setCell ⟨r,9,none⟩ (.int .i64 (dd+1))).alloc (.cells zeroCs 29)).alloc (.cells zeroCs 29)) r s m ms ((c+1:Nat):Int) (12 - d:Int)):=(HW1.out.keep (bel_alloc (Below.refl _ _) _)).keep (bel_alloc (Below.refl _ _) _)
 have HRB:Hid (BlkAt ((((w.setCell ⟨r,8,none⟩ (.int .i64 ((c:Int)+1))).setCell ⟨r,9,none⟩ (.int .i64 (dd+1))).alloc (.cells zeroCs 29)).alloc (.cells zeroCs 29)) w.heap.size 29 zeroCs):=by
  have:=blkAt_new ((w.setCell ⟨r,8,none⟩ (.int .i64 ((c:Int)+1))).setCell ⟨r,9,none⟩ (.int .i64 (dd+1))) zeroCs 29
  rw [hsz0] at this
  exact this.alloc _
 have HVB:Hid (BlkAt ((((w.setCell ⟨r,8,none⟩ (.int .i64 ((c:Int)+1))).setCell ⟨r,9,none⟩ (.int .i64 (dd+1))).alloc (.cells zeroCs 29)).alloc (.cells zeroCs 29)) (w.heap.size+1) 29 zeroCs):=by
  have:=blkAt_new (((w.setCell ⟨r,8,none⟩ (.int .i64 ((c:Int)+1))).setCell ⟨r,9,none⟩ (.int .i64 (dd+1))).alloc (.cells zeroCs 29)) zeroCs 29
  rwa [size_al,hsz0] at this
 have HS0:Hid ((World.heap ((((w.setCell ⟨r,8,none⟩ (.int .i64 ((c:Int)+1))).setCell ⟨r,9,none⟩ (.int .i64 (dd+1))).alloc (.cells zeroCs 29)).alloc (.cells zeroCs 29))).size=w.heap.size+2):=by show _=_;rw [size_al,size_al,hsz0]
 have HBas:=Lib.hid (HB.out.grown HG0.out)
 clear HW1 HB hsz0
 rcases hk with e | e
 ·rw [e] at hkc
  have hr:=hR.out
  rw [if_neg (by omega)] at hr
  have HC:=Lib.hid (object_any sorted_any hs hV HBas.out HSt0.out h11 (by omega) R hr)
  clear e hR hr
  go_enter Tryz.func83,Tryz.ntmps83
  go_wp2_with fail
  clear hkc hcc hdc hf
  cases R with
  | bad p er =>
    refine HC.out.mono ?_
    rintro e' w1 ⟨hg1,rfl,hbad,hne⟩
    have hs1:=hg1.size
    rw [HS0.out] at hs1
    obtain ⟨z0,z1,z2,z3,z4,zf⟩:=blk5 (HRB.out.grown hg1 (by intro e;have e2:w.heap.size=r:=Option.some.inj e;omega))
    obtain ⟨y0,y1,y2,y3,y4,yf⟩:=blk5 (HVB.out.grown hg1 (by intro e;have e2:w.heap.size+1=r:=Option.some.inj e;omega))
    obtain ⟨k1,x1,z1',n1,t1,af1,c1,d1,hrd⟩:=hbad
    obtain ⟨-,-,-,-,-,-,-,-,-,r9⟩:=RdAt.cells hrd
    have rf:=RdAt.frees hrd
    have HRD:=Lib.hid hrd
    have hg:=HG0.out.trans hg1
    have hn1:¬ r=w.heap.size:=by omega
    have hn2:¬ r=w.heap.size+1:=by omega
    have hn3:¬ w.heap.size=r:=by omega
    have hn4:¬ w.heap.size+1=r:=by omega
    clear hrd hg1
    simp only [zeroV]
    go_wp2_with fail
    exact bodyPost_ret (v:=.tuple #[zeroV,.int .i64 er]) (by simp [results,Tryz.results83,go_sem,zeroV,z0,z1,z2,z3,z4]) rfl
     ⟨grown_set5 (grown_set (grown_set5 hg (by omega) _ _ _ _ _) _ _) (Nat.le_refl _) _ _ _ _ _,rfl,
      ((StBad.same ⟨_,_,_,_,_,_,_,_,HRD.out⟩ (heap_set5 _ _ _ _ _ _ _ _ (by omega))).depth _).same (heap_set5 _ _ _ _ _ _ _ _ (by omega)),hne⟩
  | ok V ms1 c1 =>
    refine HC.out.mono ?_
    rintro e' w1 ⟨hg1,⟨xk,xn,xt,xa,xl,xc,xb,xm,xe⟩,m1,rfl,hnew,hst1,hk1⟩
    rw [HDD1.out] at hst1
    have hs1:=hg1.size
    rw [HS0.out] at hs1
    obtain ⟨z0,z1,z2,z3,z4,zf⟩:=blk5 (HRB.out.grown hg1 (by intro e;have e2:w.heap.size=r:=Option.some.inj e;omega))
    obtain ⟨y0,y1,y2,y3,y4,yf⟩:=blk5 (HVB.out.grown hg1 (by intro e;have e2:w.heap.size+1=r:=Option.some.inj e;omega))
    have r9:=hst1.dcell
    have rf:=hst1.free
    have HST:=Lib.hid hst1
    have HNew:=Lib.hid hnew
    have hg:=HG0.out.trans hg1
    have hn1:¬ r=w.heap.size:=by omega
    have hn2:¬ r=w.heap.size+1:=by omega
    have hn3:¬ w.heap.size=r:=by omega
    have hn4:¬ w.heap.size+1=r:=by omega
    have hdl:dd≤12:=by omega
    clear hst1 hnew hg1
    simp only [VC.val]
    go_wp2_with fail
    exact bodyPost_ret (v:=.tuple #[.agg #[.int .u8 xk,.int .i64 xn,.string xt,.slice xa xl xc,.slice xb xm xe],.int .i64 0]) (by simp [results,Tryz.results83,go_sem,z0,z1,z2,z3,z4]) rfl
     ⟨grown_set5 (grown_set (grown_set5 hg (by omega) _ _ _ _ _) _ _) (Nat.le_refl _) _ _ _ _ _,⟨xk,xn,xt,xa,xl,xc,xb,xm,xe⟩,m1,rfl,
      HNew.out.carry (fun k hk hP=>by
       have hk2:=offB_none.1 hP
       rw [HS0.out] at hk2
       exact ⟨offB_none.2 (by omega),(heap_set5 _ _ _ _ _ _ _ _ (by omega)).trans ((Below.heap_setCell _ _ _ _ (by show k≠r;omega)).trans (heap_set5 _ _ _ _ _ _ _ _ (by omega)))⟩),
      ((HST.out.same (heap_set5 _ _ _ _ _ _ _ _ (by omega))).depth dd).same (heap_set5 _ _ _ _ _ _ _ _ (by omega)),hk1⟩
 ·rw [e] at hkc
  have hr:=hR.out
  rw [if_pos e] at hr
  have HC:=Lib.hid (list_any hs hV HBas.out HSt0.out h11 (by omega) R hr)
  clear e hR hr
  go_enter Tryz.func83,Tryz.ntmps83
  go_wp2_with fail
  clear hkc hcc hdc hf
  cases R with
  | bad p er =>
    refine HC.out.mono ?_
    rintro e' w1 ⟨hg1,rfl,hbad,hne⟩
    have hs1:=hg1.size
    rw [HS0.out] at hs1
    obtain ⟨z0,z1,z2,z3,z4,zf⟩:=blk5 (HRB.out.grown hg1 (by intro e;have e2:w.heap.size=r:=Option.some.inj e;omega))
    obtain ⟨y0,y1,y2,y3,y4,yf⟩:=blk5 (HVB.out.grown hg1 (by intro e;have e2:w.heap.size+1=r:=Option.some.inj e;omega))
    obtain ⟨k1,x1,z1',n1,t1,af1,c1,d1,hrd⟩:=hbad
    obtain ⟨-,-,-,-,-,-,-,-,-,r9⟩:=RdAt.cells hrd
    have rf:=RdAt.frees hrd
    have HRD:=Lib.hid hrd
    have hg:=HG0.out.trans hg1
    have hn1:¬ r=w.heap.size:=by omega
    have hn2:¬ r=w.heap.size+1:=by omega
    have hn3:¬ w.heap.size=r:=by omega
    have hn4:¬ w.heap.size+1=r:=by omega
    clear hrd hg1
    simp only [zeroV]
    go_wp2_with fail
    exact bodyPost_ret (v:=.tuple #[zeroV,.int .i64 er]) (by simp [results,Tryz.results83,go_sem,zeroV,z0,z1,z2,z3,z4]) rfl
     ⟨grown_set5 (grown_set (grown_set5 hg (by omega) _ _ _ _ _) _ _) (Nat.le_refl _) _ _ _ _ _,rfl,
      ((StBad.same ⟨_,_,_,_,_,_,_,_,HRD.out⟩ (heap_set5 _ _ _ _ _ _ _ _ (by omega))).depth _).same (heap_set5 _ _ _ _ _ _ _ _ (by omega)),hne⟩
  | ok V ms1 c1 =>
    refine HC.out.mono ?_
    rintro e' w1 ⟨hg1,⟨xk,xn,xt,xa,xl,xc,xb,xm,xe⟩,m1,rfl,hnew,hst1,hk1⟩
    rw [HDD1.out] at hst1
    have hs1:=hg1.size
    rw [HS0.out] at hs1
    obtain ⟨z0,z1,z2,z3,z4,zf⟩:=blk5 (HRB.out.grown hg1 (by intro e;have e2:w.heap.size=r:=Option.some.inj e;omega))
    obtain ⟨y0,y1,y2,y3,y4,yf⟩:=blk5 (HVB.out.grown hg1 (by intro e;have e2:w.heap.size+1=r:=Option.some.inj e;omega))
    have r9:=hst1.dcell
    have rf:=hst1.free
    have HST:=Lib.hid hst1
    have HNew:=Lib.hid hnew
    have hg:=HG0.out.trans hg1
    have hn1:¬ r=w.heap.size:=by omega
    have hn2:¬ r=w.heap.size+1:=by omega
    have hn3:¬ w.heap.size=r:=by omega
    have hn4:¬ w.heap.size+1=r:=by omega
    have hdl:dd≤12:=by omega
    clear hst1 hnew hg1
    simp only [VC.val]
    go_wp2_with fail
    exact bodyPost_ret (v:=.tuple #[.agg #[.int .u8 xk,.int .i64 xn,.string xt,.slice xa xl xc,.slice xb xm xe],.int .i64 0]) (by simp [results,Tryz.results83,go_sem,z0,z1,z2,z3,z4]) rfl
     ⟨grown_set5 (grown_set (grown_set5 hg (by omega) _ _ _ _ _) _ _) (Nat.le_refl _) _ _ _ _ _,⟨xk,xn,xt,xa,xl,xc,xb,xm,xe⟩,m1,rfl,
      HNew.out.carry (fun k hk hP=>by
       have hk2:=offB_none.1 hP
       rw [HS0.out] at hk2
       exact ⟨offB_none.2 (by omega),(heap_set5 _ _ _ _ _ _ _ _ (by omega)).trans ((Below.heap_setCell _ _ _ _ (by show k≠r;omega)).trans (heap_set5 _ _ _ _ _ _ _ _ (by omega)))⟩),
      ((HST.out.same (heap_set5 _ _ _ _ _ _ _ _ (by omega))).depth dd).same (heap_set5 _ _ _ _ _ _ _ _ (by omega)),hk1⟩
theorem val_all {B:World} {s:ByteArray} {r:Nat} (hs:s.size≤65536):∀ d,d≤12→ValC B s r d
 | 0,_=>fun w m ms c hB h=>by
   rw [valP]
   by_cases h1:begV m=false
   ·rw [if_pos h1];exact value_wrong h h1 _ (Lib.hid rfl)
   rw [if_neg h1]
   by_cases h2:8192≤c
   ·rw [if_pos h2];exact value_much h h1 h2
   rw [if_neg h2]
   by_cases h3:m.k≠1∧m.k≠3
   ·rw [if_pos h3];exact value_leaf h (by have:=beg_cases h1;omega) (by omega)
   ·rw [if_neg h3];exact value_deep h (by omega) (by omega) (by simp)
 | d+1,hd=>fun w m ms c hB h=>by
   rw [valP]
   by_cases h1:begV m=false
   ·rw [if_pos h1];exact value_wrong h h1 _ (Lib.hid rfl)
   rw [if_neg h1]
   by_cases h2:8192≤c
   ·rw [if_pos h2];exact value_much h h1 h2
   rw [if_neg h2]
   by_cases h3:m.k≠1∧m.k≠3
   ·rw [if_pos h3];exact value_leaf h (by have:=beg_cases h1;omega) (by omega)
   ·rw [if_neg h3]
    exact value_go hs hd (val_all hs d (by omega)) hB h (by omega) (by omega) _ (Lib.hid rfl)
def ReadPost (R:PR JV) (w:World) (e:Ending) (w':World):Prop :=
 Below w.heap.size w w'∧match R with
  | .bad p er=>e=.returned (.tuple #[zeroV,.int .i64 p,.int .i64 er])∧er≠0
  | .ok V _ _=>∃ x:VC,e=.returned (.tuple #[x.val,.int .i64 0,.int .i64 0])∧NewV w.heap.size w' V x.val
theorem below_of_grown {w w':World} {r:Nat} (h:w.grownBy w' (some r)) (hr:w.heap.size≤r):Below w.heap.size w w' :=
 ⟨h.os,h.tape,h.output,h.size,fun k hk=>h.block k hk (fun e=>by have e2:k=r:=Option.some.inj e;omega)⟩
theorem StBad.cell {w:World} {r:Nat} {s:ByteArray} {p:Nat} (h:StBad w r s p):w.cell? ⟨r,1,none⟩=some (.int .i64 p):=by
 obtain ⟨k,x,z,n,t,af,c,d,h⟩:=h
 exact h.cells.2.1
theorem StAt.pcell {w:World} {r:Nat} {s:ByteArray} {m:Mk} {ms:List Lx} {c d:Int} (h:StAt w r s m ms c d):w.cell? ⟨r,1,none⟩=some (.int .i64 m.a):=h.1.cells.2.1
theorem read_any (s:ByteArray) (w:World) (hs:s.size≤9223372036854775807) (henv:NumEnv w) (R:PR JV) (hR:Hid (readV s.data.toList=R)) :
 Calls Tryz.prog 51 #[.string s] w (ReadPost R w):=by
 have hr:=hR.out
 unfold readV at hr
 rw [size_len] at hr
 by_cases hl:65536<s.size
 ·rw [if_pos hl] at hr
  subst hr
  have hl':(65536:Int)<(s.size:Int):=by omega
  clear hR hl
  go_enter Tryz.func51,Tryz.ntmps51
  go_wp2_with fail
  exact bodyPost_ret (v:=.tuple #[zeroV,.int .i64 0,.int .i64 5]) (by simp [results,Tryz.results51,go_sem,zeroV]) rfl ⟨bel_alloc (Below.refl _ _) _,rfl,by decide⟩
 rw [if_neg hl] at hr
 have hl':¬ (65536:Int)<(s.size:Int):=by omega
 have hs':s.size≤65536:=by omega
 obtain ⟨W0,hW0⟩:∃ W0,W0=(w.alloc (.cells zeroCs 29)).alloc (.cells (rdCells s 0 0 0 0 0 ⟨#[]⟩ 0 0 0) 122):=⟨_,rfl⟩
 have HG0:Hid (w.grownBy W0 (some (w.heap.size+1))):=by rw [hW0];exact grown_alloc (grown_alloc (World.grownBy.refl _ _) _) _
 have HSt0:Hid (StAt W0 (w.heap.size+1) s ⟨0,0,0,0,[]⟩ (lexes s.data.toList 0) 0 0):=by
  rw [hW0]
  refine ⟨?_,Nat.zero_le _,by simp,by decide,by decide,by decide⟩
  have:=blkAt_new (w.alloc (.cells zeroCs 29)) (rdCells s 0 0 0 0 0 ⟨#[]⟩ 0 0 0) 122
  rwa [size_al] at this
 have HRB:Hid (BlkAt W0 w.heap.size 29 zeroCs):=by rw [hW0];exact (blkAt_new w zeroCs 29).alloc _
 have HS0:Hid (W0.heap.size=w.heap.size+2):=by rw [hW0];show _=_;rw [size_al,size_al]
 have HBas:Hid (Bas w W0 (w.heap.size+1)):=⟨henv,below_of_grown HG0.out (by omega),by omega⟩
 cases hlx:lexes s.data.toList 0 with
 | nil=>exact absurd hlx (lexes_ne _ _)
 | cons x0 tl =>
   rw [hlx] at hr HSt0
   cases x0 with
   | err p e =>
     have hne:=HSt0.out.err
     have heb:(e != 0)=true:=by rw [bne_iff_ne];exact hne
     dsimp only [nextL] at hr
     subst hr
     have HN:=Lib.hid (next_err hs' HBas.out HSt0.out (by decide) (Lib.hid rfl))
     subst hW0
     clear hR hl hlx
     go_enter Tryz.func51,Tryz.ntmps51
     go_wp2_with fail
     refine HN.out.mono ?_
     rintro e' w1 ⟨rfl,hg1,hb1⟩
     obtain ⟨z0,z1,z2,z3,z4,zf⟩:=blk5 (HRB.out.grown hg1 (by intro e;have e2:w.heap.size=w.heap.size+1:=Option.some.inj e;omega))
     have hpc:=hb1.cell
     have hbel:=below_of_grown (HG0.out.trans hg1) (by omega)
     go_wp2_with fail
     go_region
     go_wp2_with fail
     exact bodyPost_ret (v:=.tuple #[zeroV,.int .i64 p,.int .i64 e]) (by simp [results,Tryz.results51,go_sem,zeroV,z0,z1,z2,z3,z4]) rfl ⟨bel_drew (bel_set5 hbel (Nat.le_refl _) _ _ _ _ _),rfl,hne⟩
   | tok m =>
     dsimp only [nextL] at hr
     unfold topP at hr
     have HN:=Lib.hid (next_tok hs' HBas.out HSt0.out (by decide) (Lib.hid rfl))
     obtain ⟨R1,hR1⟩:∃ R1,valP 12 m tl 0=R1:=⟨_,rfl⟩
     rw [hR1] at hr
     have HR1:=Lib.hid hR1
     subst hW0
     clear hR hl hlx hR1
     go_enter Tryz.func51,Tryz.ntmps51
     go_wp2_with fail
     refine HN.out.mono ?_
     rintro e' w1 ⟨rfl,hg1,hst1⟩
     have HZ1:Hid (BlkAt w1 w.heap.size 29 zeroCs):=HRB.out.grown hg1 (by intro e;have e2:w.heap.size=w.heap.size+1:=Option.some.inj e;omega)
     have HG1:Hid (w.grownBy w1 (some (w.heap.size+1))):=HG0.out.trans hg1
     have HBas1:Hid (Bas w w1 (w.heap.size+1)):=HBas.out.grown hg1
     have hs1:=hg1.size
     rw [HS0.out] at hs1
     have HC:=Lib.hid (val_all hs' 12 (Nat.le_refl _) w1 m tl 0 HBas1.out hst1)
     rw [HR1.out] at HC
     clear hst1 hg1 HN HRB HG0 HSt0 HBas HS0
     cases R1 with
     | bad p er =>
       dsimp only at hr
       subst hr
       go_wp2_with fail
       refine HC.out.mono ?_
       rintro e' w2 ⟨hg2,rfl,hb2,hne⟩
       have heb:(er != 0)=true:=by rw [bne_iff_ne];exact hne
       obtain ⟨z0,z1,z2,z3,z4,zf⟩:=blk5 (HZ1.out.grown hg2 (by intro e;have e2:w.heap.size=w.heap.size+1:=Option.some.inj e;omega))
       have hpc:=hb2.cell
       have hbel:=below_of_grown (HG1.out.trans hg2) (by omega)
       have HZ3:Hid (BlkAt (((((w2.setCell ⟨w.heap.size,0,none⟩ (.int .u8 0)).setCell ⟨w.heap.size,1,none⟩ (.int .i64 0)).setCell ⟨w.heap.size,2,none⟩ (.string ⟨#[]⟩)).setCell ⟨w.heap.size,3,none⟩ (.slice none 0 0)).setCell ⟨w.heap.size,4,none⟩ (.slice none 0 0)) w.heap.size 29 zeroCs) :=
        ((((BlkAt.set (HZ1.out.grown hg2 (by intro e;have e2:w.heap.size=w.heap.size+1:=Option.some.inj e;omega)) 0 (.int .u8 0)).set 1 (.int .i64 0)).set 2 (.string ⟨#[]⟩)).set 3 (.slice none 0 0)).set 4 (.slice none 0 0)
       have hb3:StBad (((((w2.setCell ⟨w.heap.size,0,none⟩ (.int .u8 0)).setCell ⟨w.heap.size,1,none⟩ (.int .i64 0)).setCell ⟨w.heap.size,2,none⟩ (.string ⟨#[]⟩)).setCell ⟨w.heap.size,3,none⟩ (.slice none 0 0)).setCell ⟨w.heap.size,4,none⟩ (.slice none 0 0)) (w.heap.size+1) s p:=hb2.same (heap_set5 _ _ _ _ _ _ _ _ (by omega))
       have hpc3:=hb3.cell
       have hbel3:Below w.heap.size w (((((w2.setCell ⟨w.heap.size,0,none⟩ (.int .u8 0)).setCell ⟨w.heap.size,1,none⟩ (.int .i64 0)).setCell ⟨w.heap.size,2,none⟩ (.string ⟨#[]⟩)).setCell ⟨w.heap.size,3,none⟩ (.slice none 0 0)).setCell ⟨w.heap.size,4,none⟩ (.slice none 0 0)):=bel_set5 hbel (Nat.le_refl _) _ _ _ _ _
       clear hb2 hb3 hg2
       simp only [zeroV]
       go_wp2_with fail
       clear z0 z1 z2 z3 z4 zf hpc hbel
       generalize (((((w2.setCell ⟨w.heap.size,0,none⟩ (.int .u8 0)).setCell ⟨w.heap.size,1,none⟩ (.int .i64 0)).setCell ⟨w.heap.size,2,none⟩ (.string ⟨#[]⟩)).setCell ⟨w.heap.size,3,none⟩ (.slice none 0 0)).setCell ⟨w.heap.size,4,none⟩ (.slice none 0 0))=W3 at HZ3 hpc3 hbel3 ⊢
       obtain ⟨z0,z1,z2,z3,z4,zf⟩:=blk5 HZ3.out
       go_region
       go_wp2_with fail
       exact bodyPost_ret (v:=.tuple #[zeroV,.int .i64 p,.int .i64 er]) (by simp [results,Tryz.results51,go_sem,zeroV,z0,z1,z2,z3,z4]) rfl ⟨bel_drew (bel_set5 hbel3 (Nat.le_refl _) _ _ _ _ _),rfl,hne⟩
     | ok V ms1 c1 =>
       dsimp only at hr
       unfold endP at hr
       go_wp2_with fail
       refine HC.out.mono ?_
       rintro e' w2 ⟨hg2,⟨xk,xn,xt,xa,xl,xc,xb,xm,xe⟩,m1,rfl,hnew,hst2,hk1⟩
       simp only [VC.val]
       obtain ⟨z0,z1,z2,z3,z4,zf⟩:=blk5 (HZ1.out.grown hg2 (by intro e;have e2:w.heap.size=w.heap.size+1:=Option.some.inj e;omega))
       have HZ2:Hid (BlkAt w2 w.heap.size 29 zeroCs):=HZ1.out.grown hg2 (by intro e;have e2:w.heap.size=w.heap.size+1:=Option.some.inj e;omega)
       have HG2:Hid (w.grownBy w2 (some (w.heap.size+1))):=HG1.out.trans hg2
       have HBas2:Hid (Bas w w2 (w.heap.size+1)):=HBas1.out.grown hg2
       have hs2:=hg2.size
       have HST2:=Lib.hid hst2
       have HNew:=Lib.hid hnew
       clear hg2 hst2 hnew HC HZ1 HG1 HBas1
       obtain ⟨W2,hW2⟩:∃ W2,W2=(((((w2.setCell ⟨w.heap.size,0,none⟩ (.int .u8 xk)).setCell ⟨w.heap.size,1,none⟩ (.int .i64 xn)).setCell ⟨w.heap.size,2,none⟩ (.string xt)).setCell ⟨w.heap.size,3,none⟩ (.slice xa xl xc)).setCell ⟨w.heap.size,4,none⟩ (.slice xb xm xe)):=⟨_,rfl⟩
       have HST3:Hid (StAt W2 (w.heap.size+1) s m1 ms1 c1 (12 - (12:Nat):Int)):=by rw [hW2];exact HST2.out.same (heap_set5 _ _ _ _ _ _ _ _ (by omega))
       have HG3:Hid (w.grownBy W2 (some (w.heap.size+1))):=by rw [hW2];exact grown_set5 HG2.out (Nat.le_refl _) _ _ _ _ _
       have HB3:Hid (Bas w W2 (w.heap.size+1)):=⟨HBas2.out.env,below_of_grown HG3.out (by omega),by omega⟩
       have HZ3:Hid (BlkAt W2 w.heap.size 29 #[.int .u8 xk,.int .i64 xn,.string xt,.slice xa xl xc,.slice xb xm xe]):=by
        rw [hW2]
        exact ((((BlkAt.set HZ2.out 0 (.int .u8 xk)).set 1 (.int .i64 xn)).set 2 (.string xt)).set 3 (.slice xa xl xc)).set 4 (.slice xb xm xe)
       have HN3:Hid (NewV w.heap.size W2 V (VC.val ⟨xk,xn,xt,xa,xl,xc,xb,xm,xe⟩)∧∀ W3:World,W2.grownBy W3 (some (w.heap.size+1))→NewV w.heap.size (((((W3.setCell ⟨w.heap.size,0,none⟩ (.int .u8 xk)).setCell ⟨w.heap.size,1,none⟩ (.int .i64 xn)).setCell ⟨w.heap.size,2,none⟩ (.string xt)).setCell ⟨w.heap.size,3,none⟩ (.slice xa xl xc)).setCell ⟨w.heap.size,4,none⟩ (.slice xb xm xe)) V (VC.val ⟨xk,xn,xt,xa,xl,xc,xb,xm,xe⟩)):=by
        have h1:∀ k,k≠w.heap.size→W2.heap[k]?=w2.heap[k]?:=fun k hk=>by rw [hW2];exact heap_set5 _ _ _ _ _ _ _ _ hk
        have hz2:W2.heap.size=w2.heap.size:=by rw [hW2,size_set,size_set,size_set,size_set,size_set]
        refine ⟨HNew.out.carry fun k hk hP=>?_,fun W3 hg3=>HNew.out.carry fun k hk hP=>?_⟩
        ·have:=offB_none.1 hP
         exact ⟨offB_none.2 (by omega),h1 k (by omega)⟩
        ·have:=offB_none.1 hP
         exact ⟨offB_none.2 (by omega),(heap_set5 _ _ _ _ _ _ _ _ (by omega)).trans ((hg3.block k (by omega) (fun e=>by have e2:k=w.heap.size+1:=Option.some.inj e;omega)).trans (h1 k (by omega)))⟩
       match ms1 with
       | []=>exact absurd HST3.out.nonil hk1
       | .err p er :: tl2 =>
         have hne:=HST3.out.err
         have heb:(er != 0)=true:=by rw [bne_iff_ne];exact hne
         dsimp only [nextL] at hr
         subst hr
         have HN:=Lib.hid (next_err hs' HB3.out HST3.out hk1 (Lib.hid rfl))
         rw [hW2] at HN
         have HW2:=Lib.hid hW2
         clear hW2
         go_wp2_with fail
         refine HN.out.mono ?_
         rintro e' w3 ⟨rfl,hg3,hb3⟩
         rw [← HW2.out] at hg3
         obtain ⟨y0,y1,y2,y3,y4,yf⟩:=blk5 (HZ3.out.grown hg3 (by intro e;have e2:w.heap.size=w.heap.size+1:=Option.some.inj e;omega))
         have hpc:=hb3.cell
         have hbel:=below_of_grown (HG3.out.trans hg3) (by omega)
         clear z0 z1 z2 z3 z4 zf hg3
         go_wp2_with fail
         go_region
         go_wp2_with fail
         exact bodyPost_ret (v:=.tuple #[zeroV,.int .i64 p,.int .i64 er]) (by simp [results,Tryz.results51,go_sem,zeroV,y0,y1,y2,y3,y4]) rfl ⟨bel_drew (bel_set5 hbel (Nat.le_refl _) _ _ _ _ _),rfl,hne⟩
       | .tok m2 :: r2 =>
         dsimp only [nextL] at hr
         have HN:=Lib.hid (next_tok hs' HB3.out HST3.out hk1 (Lib.hid rfl))
         rw [hW2] at HN
         have HW2:=Lib.hid hW2
         clear hW2
         by_cases h11:m2.k=11
         ·rw [if_neg (by simpa using h11)] at hr
          subst hr
          have hb11:(m2.k != 11)=false:=by rw [h11];rfl
          clear h11
          go_wp2_with fail
          refine HN.out.mono ?_
          rintro e' w3 ⟨rfl,hg3,hst3⟩
          rw [← HW2.out] at hg3
          obtain ⟨y0,y1,y2,y3,y4,yf⟩:=blk5 (HZ3.out.grown hg3 (by intro e;have e2:w.heap.size=w.heap.size+1:=Option.some.inj e;omega))
          have hkc:=hst3.kcell
          have hbel:=below_of_grown (HG3.out.trans hg3) (by omega)
          have HGq:=Lib.hid hg3
          clear z0 z1 z2 z3 z4 zf hst3 hg3
          go_wp2_with fail
          exact bodyPost_ret (v:=.tuple #[.agg #[.int .u8 xk,.int .i64 xn,.string xt,.slice xa xl xc,.slice xb xm xe],.int .i64 0,.int .i64 0]) (by simp [results,Tryz.results51,go_sem,y0,y1,y2,y3,y4]) rfl ⟨bel_set5 hbel (Nat.le_refl _) _ _ _ _ _,⟨xk,xn,xt,xa,xl,xc,xb,xm,xe⟩,rfl,HN3.out.2 _ HGq.out⟩
         ·rw [if_pos h11] at hr
          subst hr
          have hb11:(m2.k != 11)=true:=by rw [bne_iff_ne];exact h11
          clear h11
          go_wp2_with fail
          refine HN.out.mono ?_
          rintro e' w3 ⟨rfl,hg3,hst3⟩
          rw [← HW2.out] at hg3
          obtain ⟨y0,y1,y2,y3,y4,yf⟩:=blk5 (HZ3.out.grown hg3 (by intro e;have e2:w.heap.size=w.heap.size+1:=Option.some.inj e;omega))
          have hkc:=hst3.kcell
          have hpc:=hst3.pcell
          have hbel:=below_of_grown (HG3.out.trans hg3) (by omega)
          clear z0 z1 z2 z3 z4 zf hst3 hg3
          go_wp2_with fail
          go_region
          go_wp2_with fail
          exact bodyPost_ret (v:=.tuple #[zeroV,.int .i64 m2.a,.int .i64 11]) (by simp [results,Tryz.results51,go_sem,zeroV,y0,y1,y2,y3,y4]) rfl ⟨bel_drew (bel_set5 hbel (Nat.le_refl _) _ _ _ _ _),rfl,by decide⟩
end

section
set_option maxRecDepth 100000
open Go.RowKit
theorem cRead_any (s:ByteArray) (w:World) (hs:s.size≤9223372036854775807) (henv:NumEnv w) :
 Calls Tryz.prog 21 #[.string s] w (MapPost (chartT s.data.toList) w):=by
 have HB1:Hid (Below w.heap.size w (w.alloc (.cells #[.slice none 0 0,.slice none 0 0] 25))):=bel_alloc (Below.refl _ _) _
 have HR1:Hid (BlkAt (w.alloc (.cells #[.slice none 0 0,.slice none 0 0] 25)) w.heap.size 25 #[.slice none 0 0,.slice none 0 0]):=blkAt_new w _ _
 have hs1:=size_al w (.cells #[.slice none 0 0,.slice none 0 0] 25)
 have HEN:Hid (∀ W,Below w.heap.size w W→NumEnv W):=fun W hb=>henv.below hb
 cases hr:readV s.data.toList with
 | bad p e =>
   have he:chartT s.data.toList=.bad e:=by rw [chartT,hr]
   rw [he]
   have HRD:=Lib.hid (fun W (hE:NumEnv W)=>read_any s W hs hE (.bad p e) (Lib.hid hr))
   clear hr he henv
   go_enter Tryz.func21,Tryz.ntmps21
   go_wp2_with fail
   generalize w.alloc (.cells #[.slice none 0 0,.slice none 0 0] 25)=w1 at HB1 HR1 hs1 ⊢
   refine (HRD.out _ (HEN.out _ HB1.out)).mono ?_
   rintro e' w2 ⟨hb2,rfl,hne⟩
   have heb:(e != 0)=true:=by rw [bne_iff_ne];exact hne
   have HNE:=Lib.hid hne
   have hr2:=BlkAt.keep HR1.out hb2
   obtain ⟨r0,r1,rf⟩:=b2c hr2
   have hrl:=BlkAt.lt hr2
   have hn1:¬ w.heap.size=w2.heap.size:=by omega
   have hn2:¬ w2.heap.size=w.heap.size:=by omega
   have HBB:=Lib.hid (below_more HB1.out hb2)
   have HRA:=Lib.hid hr2
   simp only [zeroV]
   clear hb2 hr2 hne
   go_wp2_with fail
   obtain ⟨q0,q1,-⟩:=b2c (((HRA.out.set 0 (.slice none 0 0)).set 1 (.slice none 0 0)).alloc (.cells #[.int .u8 0,.int .i64 0,.string ⟨#[]⟩,.slice none 0 0,.slice none 0 0] 29))
   have HBF:=bel_alloc (bel_set (bel_set HBB.out (p:=⟨w.heap.size,0,none⟩) (Nat.le_refl _) (.slice none 0 0)) (p:=⟨w.heap.size,1,none⟩) (Nat.le_refl _) (.slice none 0 0)) (.cells #[.int .u8 0,.int .i64 0,.string ⟨#[]⟩,.slice none 0 0,.slice none 0 0] 29)
   clear r0 r1 rf hn1 hn2
   exact bodyPost_ret (v:=.tuple #[.agg #[.slice none 0 0,.slice none 0 0],.int .i64 e]) (by simp [results,Tryz.results21,go_sem,q0,q1]) rfl ⟨HBF,rfl,HNE.out⟩
 | ok V ms c =>
   have he:chartT s.data.toList=chartV V:=by rw [chartT,hr]
   have HRD:=Lib.hid (fun W (hE:NumEnv W)=>read_any s W hs hE (.ok V ms c) (Lib.hid hr))
   rw [he]
   obtain ⟨R,hR⟩:∃ R,chartV V=R:=⟨_,rfl⟩
   rw [hR]
   have HR:=Lib.hid hR
   clear hr he hR henv
   go_enter Tryz.func21,Tryz.ntmps21
   go_wp2_with fail
   generalize w.alloc (.cells #[.slice none 0 0,.slice none 0 0] 25)=w1 at HB1 HR1 hs1 ⊢
   refine (HRD.out _ (HEN.out _ HB1.out)).mono ?_
   rintro e' w2 ⟨hb2,⟨xk,xn,xt,xa,xl,xc,xb,xm,xe⟩,rfl,hnew⟩
   have hr2:=BlkAt.keep HR1.out hb2
   obtain ⟨r0,r1,rf⟩:=b2c hr2
   have hrl:=BlkAt.lt hr2
   have hn1:¬ w.heap.size=w2.heap.size:=by omega
   have hn2:¬ w2.heap.size=w.heap.size:=by omega
   have HBB:=Lib.hid (below_more HB1.out hb2)
   have HR2:=Lib.hid hr2
   have HNEW:Hid (ValAt (hidden (offB w1.heap.size none) w2) V (VC.val ⟨xk,xn,xt,xa,xl,xc,xb,xm,xe⟩)):=hnew
   simp only [VC.val]
   clear hb2 hr2 hnew HB1 HR1
   go_wp2_with fail
   have hbx:Below w2.heap.size w2 (w2.alloc (.cells #[.int .u8 xk,.int .i64 xn,.string xt,.slice xa xl xc,.slice xb xm xe] 29)):=bel_alloc (Below.refl _ _) _
   have HPX:Hid (ValAt (pureW (w2.alloc (.cells #[.int .u8 xk,.int .i64 xn,.string xt,.slice xa xl xc,.slice xb xm xe] 29))) V (VC.val ⟨xk,xn,xt,xa,xl,xc,xb,xm,xe⟩)):=HNEW.out.imp (hid_imp fun k hk _=>⟨rfl,hbx.block k hk⟩)
   have hs2x:=size_al w2 (.cells #[.int .u8 xk,.int .i64 xn,.string xt,.slice xa xl xc,.slice xb xm xe] 29)
   have HX2:=Lib.hid (below_more HBB.out hbx)
   have HR3:=Lib.hid (BlkAt.keep HR2.out hbx)
   clear hbx
   generalize w2.alloc (.cells #[.int .u8 xk,.int .i64 xn,.string xt,.slice xa xl xc,.slice xb xm xe] 29)=w2x at HPX hs2x HX2 HR3 ⊢
   have HOF:=cOf_any V ⟨xk,xn,xt,xa,xl,xc,xb,xm,xe⟩ w2x HPX.out
   rw [HR.out] at HOF
   refine HOF.mono ?_
   rintro e w3 ⟨hb3,hpost⟩
   have hr3:=BlkAt.keep HR3.out hb3
   have HRA:=Lib.hid hr3
   have HB3:=Lib.hid (below_more HX2.out hb3)
   have hrl3:=BlkAt.lt HR3.out
   obtain ⟨r0,r1,rf⟩:=b2c hr3
   clear hr3 hb3 HX2 HOF
   cases R with
   | bad er =>
     obtain ⟨rfl,hne⟩:=hpost
     have HNE:=Lib.hid hne
     clear hne
     go_wp2_with fail
     obtain ⟨q0,q1,-⟩:=b2c ((HRA.out.set 0 (.slice none 0 0)).set 1 (.slice none 0 0))
     have HBF:=bel_set (bel_set HB3.out (p:=⟨w.heap.size,0,none⟩) (Nat.le_refl _) (.slice none 0 0)) (p:=⟨w.heap.size,1,none⟩) (Nat.le_refl _) (.slice none 0 0)
     clear r0 r1 rf hn1 hn2
     exact bodyPost_ret (v:=.tuple #[.agg #[.slice none 0 0,.slice none 0 0],.int .i64 er]) (by simp [results,Tryz.results21,go_sem,q0,q1]) rfl ⟨HBF,rfl,HNE.out⟩
   | ok z =>
     obtain ⟨a1,c1,a2,c2,rs,gs,Bm,rfl,hBm,hro,hrb,hmo,h5,h6,h7⟩:=hpost
     have HRO:=Lib.hid hro
     have HMO:=Lib.hid hmo
     have HRB:=Lib.hid hrb
     have H5:=Lib.hid h5
     have H6:=Lib.hid h6
     have H7:=Lib.hid h7
     clear hro hmo hrb h5 h6 h7
     go_wp2_with fail
     obtain ⟨q0,q1,-⟩:=b2c ((HRA.out.set 0 (.slice a1 rs.length c1)).set 1 (.slice a2 gs.length c2))
     have HBF:=bel_set (bel_set HB3.out (p:=⟨w.heap.size,0,none⟩) (Nat.le_refl _) (.slice a1 rs.length c1)) (p:=⟨w.heap.size,1,none⟩) (Nat.le_refl _) (.slice a2 gs.length c2)
     clear r0 r1 rf hn1 hn2
     refine bodyPost_ret (v:=.tuple #[.agg #[.slice a1 rs.length c1,.slice a2 gs.length c2],.int .i64 0]) (by simp [results,Tryz.results21,go_sem,q0,q1]) rfl ⟨HBF,a1,c1,a2,c2,rs,gs,Bm,rfl,by omega,?_,HRB.out,?_,H5.out,H6.out,H7.out⟩
     ·exact (HRO.out.up (((Up.of_below (Below.refl _ _)).set (show w.heap.size<w2x.heap.size by omega) 0 _).set (show w.heap.size<w2x.heap.size by omega) 1 _)).lows (by omega)
     ·exact HMO.out.up (((Up.of_below (Below.refl _ _)).set (show w.heap.size<Bm by omega) 0 _).set (show w.heap.size<Bm by omega) 1 _)
end
end Go.Proofs.YtchinankclckjaaGreatDoor
