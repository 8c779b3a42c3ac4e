/-
  legateref11: the document's picker: Of, Take.
  legateref11: Text, List, Object, Fail, Done, Of.
  legateref11: Fail, Done, Of.
  legateref11.Of.
  legateref16.Sig: the signature of an object, by the document.
  legateref16.Of: the envelope of a value, by the document.
  legateref16.Of: the envelope of a value, by the document: the walk.
  pick.ListOf: a list that is made of values.
-/
import Derived.Test.YtchinankclckjaaGreatDoorRefPick
import Derived.Test.YtchinankclckjaaGreatDoorStrsOwn
import Derived.Test.YtchinankclckjaaGreatDoorReadList
import Derived.Deep.RegionHeld3
import Derived.Test.YtchinankclckjaaGreatDoorSignP
import Derived.IntWalk
import Derived.Deep.Light
import Derived.Test.YtchinankclckjaaGreatDoorQuoteB
import Derived.BigQuiet
import Derived.Test.YtchinankclckjaaGreatDoorValRef3
import Derived.Test.YtchinankclckjaaGreatDoorChartV
namespace Go.Proofs.YtchinankclckjaaGreatDoor
set_option maxHeartbeats 8000000
section
open Go.RowKit
structure Sep (w w':World) (o:Nat) (r:Option Nat):Prop where
 os:w'.os=w.os
 tape:w'.tape=w.tape
 output:w'.output=w.output
 size:w.heap.size≤w'.heap.size
 block:∀ k,k<w.heap.size→k≠o→some k≠r→w'.heap[k]?=w.heap[k]?
theorem Sep.of_below {w w':World} (h:Below w.heap.size w w') (o:Nat) (r:Option Nat):Sep w w' o r:=⟨h.os,h.tape,h.output,h.size,fun k hk _ _=>h.block k hk⟩
theorem Sep.more {w w1 w':World} {o:Nat} {r:Option Nat} (h:Below w.heap.size w w1) (k:Sep w1 w' o r):Sep w w' o r :=
 ⟨k.os.trans h.os,k.tape.trans h.tape,k.output.trans h.output,Nat.le_trans h.size k.size,fun i hi h1 h2=>(k.block i (Nat.lt_of_lt_of_le hi h.size) h1 h2).trans (h.block i hi)⟩
theorem Sep.set {w w':World} {o:Nat} {r:Option Nat} (h:Sep w w' o r) (i:Nat) (v:Value):Sep w (w'.setCell ⟨o,i,none⟩ v) o r :=
 ⟨h.os,h.tape,h.output,by show _≤(w'.heap.modify _ _).size;rw [Array.size_modify];exact h.size,fun k hk h1 h2=>(Below.heap_setCell _ _ _ _ h1).trans (h.block k hk h1 h2)⟩
theorem Sep.set_new {w w':World} {o:Nat} {r:Option Nat} (h:Sep w w' o r) {b:Nat} (hb:w.heap.size≤b) (i:Nat) (v:Value):Sep w (w'.setCell ⟨b,i,none⟩ v) o r :=
 ⟨h.os,h.tape,h.output,by show _≤(w'.heap.modify _ _).size;rw [Array.size_modify];exact h.size,fun k hk h1 h2=>(Below.heap_setCell _ _ _ _ (fun e=>by have:k=b:=e;omega)).trans (h.block k hk h1 h2)⟩
theorem Sep.below {w0 w w':World} {o:Nat} {r:Option Nat} (h:Sep w w' o r) (hb:Below w0.heap.size w0 w) (ho:w0.heap.size≤o) (hr:∀ k,r=some k→w0.heap.size≤k):Below w0.heap.size w0 w' :=
 ⟨h.os.trans hb.os,h.tape.trans hb.tape,h.output.trans hb.output,Nat.le_trans hb.size h.size,fun k hk=>(h.block k (Nat.lt_of_lt_of_le hk hb.size) (by omega) (fun e=>by have:=hr k e.symm;omega)).trans (hb.block k hk)⟩
theorem b7 {w:World} {b:Nat} {T:TypeId} {v0 v1 v2 v3 v4 v5 v6:Value} (h:BlkAt w b T #[v0,v1,v2,v3,v4,v5,v6]) :
 w.cell? ⟨b,0,none⟩=some v0∧w.cell? ⟨b,1,none⟩=some v1∧w.cell? ⟨b,2,none⟩=some v2∧w.cell? ⟨b,3,none⟩=some v3∧w.cell? ⟨b,4,none⟩=some v4∧w.cell? ⟨b,5,none⟩=some v5∧w.cell? ⟨b,6,none⟩=some v6∧∀ i,w.frozen? ⟨b,i,none⟩=false :=
 ⟨h.cell 0,h.cell 1,h.cell 2,h.cell 3,h.cell 4,h.cell 5,h.cell 6,h.free⟩
theorem Sep.set5 {w w':World} {o:Nat} {r:Option Nat} (h:Sep w w' o r) {b:Nat} (hb:w.heap.size≤b) (v0 v1 v2 v3 v4:Value):Sep w (((((w'.setCell ⟨b,0,none⟩ v0).setCell ⟨b,1,none⟩ v1).setCell ⟨b,2,none⟩ v2).setCell ⟨b,3,none⟩ v3).setCell ⟨b,4,none⟩ v4) o r :=
 ((((h.set_new hb 0 v0).set_new hb 1 v1).set_new hb 2 v2).set_new hb 3 v3).set_new hb 4 v4
theorem row_far {w:World} {B:Nat} {T:TypeId} {n m:Nat} {v:Value} {xs:List Value} (h:w.ownsRow B T m v n xs) {b:Nat} (hne:some b≠v.ownBlock) (i:Nat) (v0:Value):(w.setCell ⟨b,i,none⟩ v0).ownsRow B T m v n xs :=
 h.kept (grown_set (World.grownBy.refl _ _) _ _) (by
  cases hv:v.ownBlock with
  | none=>exact Or.inl rfl
  | some g=>right;rw [hv] at hne;exact fun e=>hne e.symm)
end

section
open Go.RowKit
theorem valAt_z (w:World):ValAt w zJ zV:=by
 unfold zJ zV
 rw [ValAt]
 exact ⟨.slice none 0 0,.slice none 0 0,rfl,by decide,by decide,by decide,by decide,by decide,strsAt_nil _,by simp,Or.inl ⟨rfl,none,0,rfl⟩⟩
def zC:VC:=⟨0,0,⟨#[]⟩,none,0,0,none,0,0⟩
theorem blk_set5 {w:World} {b:Nat} {T:TypeId} {a0 a1 a2 a3 a4:Value} (h:BlkAt w b T #[a0,a1,a2,a3,a4]) (v0 v1 v2 v3 v4:Value):BlkAt (((((w.setCell ⟨b,0,none⟩ v0).setCell ⟨b,1,none⟩ v1).setCell ⟨b,2,none⟩ v2).setCell ⟨b,3,none⟩ v3).setCell ⟨b,4,none⟩ v4) b T #[v0,v1,v2,v3,v4] :=
 ((((BlkAt.set h 0 v0).set 1 v1).set 2 v2).set 3 v3).set 4 v4
theorem takeQ_some {V:JV} {nm:ByteArray} {k:Int} {s s':PS} {y:JV} (h:takeQ V nm k s=(some y,s')):∃ A,s=.ok A∧s'=.ok (A++[nm]):=by
 cases s with
 | bad e=>rw [takeQ] at h;cases h
 | ok A =>
   rw [takeQ] at h
   split at h
   ·cases h
   ·split at h
    ·cases h;exact ⟨A,rfl,rfl⟩
    ·cases h
end

section
open Go.RowKit
theorem askedAll_at {V:JV} {A:List ByteArray} {i:Nat} {s:ByteArray} (hs:V.names[i]?=some s) (h:(A.any fun a=>a.data.toList == s.data.toList)=false):allAsked V A=false:=by
 unfold allAsked
 rw [List.all_eq_false]
 exact ⟨s,List.mem_of_getElem? hs,by rw [h];decide⟩
end

section
open Go.RowKit
def Fit (V:JV):Prop:=V.k=5→V.names.length=V.items.length∧ascB V.names=true
theorem may_fit {V:JV} (h:mayB V=true):Fit V:=fun hk=>by
 obtain ⟨a,-,-⟩:=(mayB_iff V).1 h
 rw [goodV_eq,Bool.and_eq_true] at a
 have:=proper_obj a.1 hk
 exact ⟨this.1,this.2.1⟩
end

section
open Go.RowKit
theorem takeQ_mem {V:JV} {nm:ByteArray} {k:Int} {s s':PS} {y:JV} (h:takeQ V nm k s=(some y,s')):y ∈ V.items∧y.k=k:=by
 cases s with
 | bad e=>rw [takeQ] at h;cases h
 | ok A =>
   rw [takeQ] at h
   split at h
   ·cases h
   ·next x hx =>
    split at h
    ·next e=>cases h;exact ⟨getN_mem hx,e⟩
    ·cases h
theorem pick_ok {V:JV} {A:List ByteArray} (h:pickQ V=.ok A):V.k=5∧A=[]:=by
 unfold pickQ at h
 split at h
 ·next e=>cases h;exact ⟨e,rfl⟩
 ·cases h
theorem b2 {w:World} {b:Nat} {T:TypeId} {v0 v1:Value} (h:BlkAt w b T #[v0,v1]) :
 w.cell? ⟨b,0,none⟩=some v0∧w.cell? ⟨b,1,none⟩=some v1∧∀ i,w.frozen? ⟨b,i,none⟩=false :=
 ⟨h.cell 0,h.cell 1,h.free⟩
end

section
open Go.RowKit
/-! Rows of signatures. -/
/-! Plainly. -/
theorem list_ok {V:JV} {nm:ByteArray} {most:Nat} {s s':PS} {l:List JV} (h:listQ V nm most s=(l,s')):(∃ e,s'=.bad e∧l=[])∨∃ B y,s=.ok B∧s'=.ok (B++[nm])∧y ∈ V.items∧y.k=4∧l=y.items∧l.length≤most:=by
 obtain ⟨R,s1,hR⟩:∃ R s1,takeQ V nm 4 s=(R,s1):=⟨_,_,rfl⟩
 rw [listQ,hR] at h
 cases R with
 | none =>
   cases h
   left
   cases s with
   | bad e=>rw [takeQ] at hR;cases hR;exact ⟨_,rfl,rfl⟩
   | ok A =>
     rw [takeQ] at hR
     split at hR
     ·cases hR;exact ⟨_,rfl,rfl⟩
     ·split at hR
      ·cases hR
      ·cases hR;exact ⟨_,rfl,rfl⟩
 | some y =>
   simp only at h
   obtain ⟨A,h1,h2⟩:=takeQ_some hR
   obtain ⟨h3,h4⟩:=takeQ_mem hR
   split at h
   ·cases h;exact Or.inl ⟨_,rfl,rfl⟩
   ·cases h
    exact Or.inr ⟨A,y,h1,h2,h3,h4,rfl,by omega⟩
end

section
open Go.RowKit
theorem row_same {w w':World} {B:Nat} {T:TypeId} {n m:Nat} {v:Value} {xs:List Value} (h:w.ownsRow B T m v n xs) (hk:∀ k,v.ownBlock=some k→w'.heap[k]?=w.heap[k]?):w'.ownsRow B T m v n xs:=by
 obtain ⟨r1,r2⟩:=h
 refine ⟨r1,?_⟩
 rcases r2 with r2 | ⟨g,cap,cur,hv,hb2,hc,r⟩
 ·exact Or.inl r2
 ·subst hv
  exact Or.inr ⟨g,cap,cur,rfl,hb2,by rw [hk g rfl];exact hc,r⟩
theorem item_vc {w:World} {la:Option Addr} {n lc:Nat} {l:List JV} (h:ItemsAt w (.slice la n lc) l) {j:Nat} {y:JV} (hy:l[j]?=some y):∃ (ib io:Nat) (v:VC),la=some ⟨ib,io,none⟩∧w.cell? ⟨ib,io+j*5,none⟩=some (.int .u8 v.k)∧w.cell? ⟨ib,io+j*5+1,none⟩=some (.int .i64 v.n)∧w.cell? ⟨ib,io+j*5+2,none⟩=some (.string v.t)∧w.cell? ⟨ib,io+j*5+3,none⟩=some (.slice v.a v.l v.c)∧w.cell? ⟨ib,io+j*5+4,none⟩=some (.slice v.b v.m v.e)∧ValAt w y v.val:=by
 obtain ⟨a,cap,e,-,hp⟩:=h.parts
 cases e
 obtain ⟨b,o,vn,vi,e,c0,c1,c2,c3,c4,q⟩:=hp j y hy
 have hv:=valAt_iff.2 ⟨vn,vi,rfl,q⟩
 obtain ⟨-,-,-,-,-,q1,q2⟩:=q
 obtain ⟨xa,xc,rfl,-⟩:=q1.parts
 obtain ⟨xb,xe,rfl,-⟩:=q2.parts
 exact ⟨b,o,⟨y.k,y.n,y.t,xa,_,xc,xb,_,xe⟩,e,c0,c1,c2,c3,c4,hv⟩
end

section
set_option maxRecDepth 100000
open Go.RowKit
theorem listOf_any (l:List JV) (v:Value) (w:World) (h:ItemsAt (pureW w) v l) (hl9:l.length≤1000000) (hwt:∀ x ∈ l,wt x≤1000000000) :
 Calls Tryz.prog 30 #[v] w fun e w'=>∃ x:VC,e=.returned x.val∧Below w.heap.size w w'∧NewV w.heap.size w' (listJ l) x.val:=by
 obtain ⟨sa,scap,rfl,hl,-⟩:=h.parts
 obtain ⟨n,hn⟩:∃ n,l.length=n:=⟨_,rfl⟩
 rw [hn] at h hl hl9 ⊢
 obtain ⟨i0,hi,hz0,hz1,hz2⟩:=info_parts infoVal
 obtain ⟨W,hW⟩:∃ W,W=(w.alloc (.cells #[.int .u8 0,.int .i64 0,.string ⟨#[]⟩,.slice none 0 0,.slice none 0 0] 29)).alloc (.cells #[.int .u8 4,.int .i64 0,.string ⟨#[]⟩,.slice none 0 0,.slice none 0 0] 29):=⟨_,rfl⟩
 have hBW:Below w.heap.size w W:=by rw [hW];exact bel_alloc (bel_alloc (Below.refl _ _) _) _
 have HRW:Hid (BlkAt W w.heap.size 29 #[.int .u8 0,.int .i64 0,.string ⟨#[]⟩,.slice none 0 0,.slice none 0 0]):=by rw [hW];exact (blkAt_new w _ _).alloc _
 have HMW:Hid (BlkAt W (w.heap.size+1) 29 #[.int .u8 4,.int .i64 0,.string ⟨#[]⟩,.slice none 0 0,.slice none 0 0]):=by
  rw [hW]
  have:=blkAt_new (w.alloc (.cells #[.int .u8 0,.int .i64 0,.string ⟨#[]⟩,.slice none 0 0,.slice none 0 0] 29)) #[.int .u8 4,.int .i64 0,.string ⟨#[]⟩,.slice none 0 0,.slice none 0 0] 29
  rwa [size_al] at this
 have hsW:W.heap.size=w.heap.size+2:=by rw [hW,size_al,size_al]
 obtain ⟨H0,hH0⟩:∃ h,w.heap.size+2=h:=⟨_,rfl⟩
 obtain ⟨mb,hmb⟩:∃ h,w.heap.size+1=h:=⟨_,rfl⟩
 have HBW:=Lib.hid hBW
 have HW:=Lib.hid hW
 have HIs:=Lib.hid h
 have HN:=Lib.hid hn
 have HWT:=Lib.hid hwt
 have HI:=Lib.hid hi
 have HZ0:=Lib.hid hz0
 have HZ1:=Lib.hid hz1
 have HZ2:=Lib.hid hz2
 rw [hmb] at HMW
 have hsW2:H0=W.heap.size:=by omega
 clear h hn hi hz0 hz1 hz2 hW hBW hwt
 go_enter Tryz.func30,Tryz.ntmps30
 go_wp2_with fail
 rw [← HW.out]
 go_loopw [9] (fun i wr=>∃ (j:Nat) (xs:List XI) (a:Option Addr) (cp:Nat),j≤n∧i=.int .i64 j∧xs.length=j∧Hid (xs.map Prod.snd=l.take j)∧H0≤wr.heap.size∧Hid (Below w.heap.size w wr)∧Hid (BlkAt wr w.heap.size 29 #[.int .u8 0,.int .i64 0,.string ⟨#[]⟩,.slice none 0 0,.slice none 0 0])∧Hid (BlkAt wr mb 29 #[.int .u8 4,.int .i64 0,.string ⟨#[]⟩,.slice none 0 0,.slice a j cp])∧Hid (ItemsOwn wr H0 (.slice a j cp) xs)) (fun i _=>n - (intOf i).toNat)
 case atStart=>exact ⟨0,[],none,0,by omega,rfl,rfl,rfl,by omega,HBW.out,HRW.out,HMW.out,ItemsOwn.nil _ _⟩
 case round =>
  obtain ⟨j,xs,a,cp,hj,rfl,hxs,HXS,hsz,HBr,HRr,HCr,HIr⟩:=hrel
  by_cases hjn:j<n
  ·obtain ⟨x,hx⟩:∃ x,l[j]?=some x:=⟨_,List.getElem?_eq_getElem (by rw [HN.out];exact hjn)⟩
   obtain ⟨ib,io,⟨yk,yn,yt,ya,yl,yc,yb,ym,ye⟩,rfl,c0,c1,c2,c3,c4,hyv⟩:=item_vc HIs.out hx
   have c0:=cell_keep HBr.out (pure_cell c0).2
   have c1:=cell_keep HBr.out (pure_cell c1).2
   have c2:=cell_keep HBr.out (pure_cell c2).2
   have c3:=cell_keep HBr.out (pure_cell c3).2
   have c4:=cell_keep HBr.out (pure_cell c4).2
   simp only at c0 c1 c2 c3 c4
   have hj0':(0:Int)≤(j:Int):=by omega
   have hj1':(j:Int)<(n:Int):=by omega
   have hwx:=HWT.out x (List.mem_of_getElem? hx)
   have HX:=Lib.hid hx
   have hcl:mb<H0:=by omega
   have hvx:ValAt (pureW wr) x (VC.val ⟨yk,yn,yt,ya,yl,yc,yb,ym,ye⟩):=hyv.imp (pure_keep HBr.out)
   clear hx hyv
   obtain ⟨w1,hw1⟩:∃ y,y=wr.alloc (.cells #[.int .u8 yk,.int .i64 yn,.string yt,.slice ya yl yc,.slice yb ym ye] 29):=⟨_,rfl⟩
   have hb1:Below wr.heap.size wr w1:=by rw [hw1];exact bel_alloc (Below.refl _ _) _
   have HX1:Hid (BlkAt w1 wr.heap.size 29 #[.int .u8 yk,.int .i64 yn,.string yt,.slice ya yl yc,.slice yb ym ye]):=by rw [hw1];exact blkAt_new wr _ _
   have HC1:=Lib.hid (HCr.out.keep hb1)
   have HR1:=Lib.hid (HRr.out.keep hb1)
   have HI1:=Lib.hid (HIr.out.kept (r:=mb) (by omega) (grown_of hb1 _))
   have HB1:=Lib.hid (below_more HBr.out hb1)
   have hsz1:H0≤w1.heap.size:=Nat.le_trans hsz hb1.size
   have HDUP:=Lib.hid (fun w' (hb:Below w1.heap.size w1 w')=>Copy_any x (VC.val ⟨yk,yn,yt,ya,yl,yc,yb,ym,ye⟩) w' ((hvx.imp (pure_keep hb1)).imp (pure_keep hb)) hwx)
   have HW1:=Lib.hid hw1
   clear hw1 hb1 hvx hwx
   go_wp2_with fail
   rw [← HW1.out]
   obtain ⟨tb,htb⟩:∃ t,wr.heap.size=t:=⟨_,rfl⟩
   rw [htb] at HX1 ⊢
   obtain ⟨q0,q1,q2,q3,q4,qf⟩:=blk5 HC1.out
   obtain ⟨t0,t1,t2,t3,t4,-⟩:=blk5 HX1.out
   simp only [VC.val] at HDUP
   clear c0 c1 c2 c3 c4 HRr HCr HIr HBr htb
   go_region_law (first
    | (refine step_append_lies _ (by rfl) _ _ _ (by rfl) H0 29 i0 _ 5 80 Tryz.underlying27 HI.out HZ0.out HZ1.out HZ2.out rfl (by omega) (.slice a j cp) j (xiCells xs) (by rfl) (World.ownsRow.alloc ho4 _) ⟨w4.heap.size,0,none⟩ 1 1 [.int .u8 zk,.int .i64 zn,.string zt,.slice za zl zc,.slice zb zm ze] (by rfl) (by rfl) (World.news_of_block (cs:=#[.int .u8 zk,.int .i64 zn,.string zt,.slice za zl zc,.slice zb zm ze]) (t:=29) (fr:=(0,0)) (heap_alloc_new w4 _)) (by intro u hu;simp only [List.mem_cons,List.not_mem_nil,or_false] at hu;rcases hu with rfl | rfl | rfl | rfl | rfl <;> rfl) (by omega) (by unfold maxLen;omega) (by omega) (by rw [size_al];omega) (w4.heap.size+1) (size_al _ _) ?_;intro gg cp' w6 hown6 hgrow hat hlt;have hc6:=blk_grown ho4 hgrow (BlkAt.keep HC1.out hb5) hcl;obtain ⟨r0,r1,r2,r3,r4,rf⟩:=blk5 hc6)
    | (go_simp;go_at_call 35;refine (HDUP.out _ (by (repeat (first | exact Below.refl _ _ | refine bel_drew ?_)))).mono ?_;rintro e w4 ⟨⟨zk,zn,zt,za,zl,zc,zb,zm,ze⟩,rfl,hb4,hnew4⟩;simp only [VC.val];have hb5:Below w1.heap.size w1 w4:=below_more (by (repeat (first | exact Below.refl _ _ | refine bel_drew ?_))) hb4;obtain ⟨p0,p1,p2,p3,p4,pf⟩:=blk5 (BlkAt.keep HC1.out hb5);obtain ⟨s0,s1,s2,s3,s4,sf⟩:=blk5 ((BlkAt.keep HC1.out hb5).alloc (.cells #[.int .u8 zk,.int .i64 zn,.string zt,.slice za zl zc,.slice zb zm ze] 29));have hz4:=hb5.size;have ho4:=own_len hxs (HI1.out.kept (r:=mb) (by omega) (grown_of hb5 _)).1))
   all_goals
    have hfz4:H0≤w4.heap.size:=Nat.le_trans hsz1 hz4
    have hne6:∀ k,k<H0→some k≠(Value.slice a j cp).ownBlock:=fun k hk e=>by
     have:=(World.ownsRow.lt ho4 k e.symm).1
     omega
    have hI6:ItemsOwn w6 H0 (.slice (some ⟨gg,0,none⟩) (j+1) cp') (xs++[(⟨zk,zn,zt,za,zl,zc,zb,zm,ze⟩,x)]) :=
     ItemsOwn.snoc HI1.out hnew4 hsz1 hz4 (hat.elim (fun e=>Or.inl e.symm) (fun e=>Or.inr ⟨gg,rfl,by omega⟩)) (by rw [hxs];exact hown6) (fun k hk _ hne=>(hgrow.block k (by rw [size_al];omega) (fun e=>hne e.symm)).trans ((bel_alloc (Below.refl _ _) _).block k hk)) (fun k hk _=>hb5.block k hk)
    have HI7:=Lib.hid (hI6.set hcl 4 (.slice (some ⟨gg,0,none⟩) (j+1) cp'))
    have hb6:Below w.heap.size w w6:=(bel_alloc (below_more HB1.out hb5) _).grown hgrow (by rw [size_al];have:=HB1.out.size;omega) (fun k hk=>by have:=(World.ownsRow.lt ho4 k hk).1;omega)
    have HB7:Hid (Below w.heap.size w (w6.setCell ⟨mb,4,none⟩ (.slice (some ⟨gg,0,none⟩) (j+1) cp'))):=bel_set hb6 (by show w.heap.size≤mb;omega) _
    have HC7:Hid (BlkAt (w6.setCell ⟨mb,4,none⟩ (.slice (some ⟨gg,0,none⟩) (j+1) cp')) mb 29 #[.int .u8 4,.int .i64 0,.string ⟨#[]⟩,.slice none 0 0,.slice (some ⟨gg,0,none⟩) (j+1) cp']):=hc6.set 4 _
    have HR7:Hid (BlkAt (w6.setCell ⟨mb,4,none⟩ (.slice (some ⟨gg,0,none⟩) (j+1) cp')) w.heap.size 29 #[.int .u8 0,.int .i64 0,.string ⟨#[]⟩,.slice none 0 0,.slice none 0 0]):=(blk_grown ho4 hgrow (BlkAt.keep HR1.out hb5) (by omega)).set_far (by omega) 4 _
    have hs7:H0≤(w6.setCell ⟨mb,4,none⟩ (.slice (some ⟨gg,0,none⟩) (j+1) cp')).heap.size:=by
     show H0≤(w6.heap.modify _ _).size
     rw [Array.size_modify]
     have h1:=hgrow.size
     rw [size_al] at h1
     omega
    have HXS7:Hid ((xs++[((⟨zk,zn,zt,za,zl,zc,zb,zm,ze⟩:VC),x)]).map Prod.snd=l.take (j+1)):=by
     show _=_
     rw [List.map_append,HXS.out,List.take_add_one,HX.out]
     rfl
    have hxs7:(xs++[((⟨zk,zn,zt,za,zl,zc,zb,zm,ze⟩:VC),x)]).length=j+1:=by rw [List.length_append,hxs];rfl
    clear hown6 hgrow hat hlt hc6 hI6 hb6 ho4 hb4 hb5 hne6 q0 q1 q2 q3 q4 qf p0 p1 p2 p3 p4 pf s0 s1 s2 s3 s4 sf r0 r1 r2 r3 r4 rf HR1 HC1 HI1 HB1 hnew4
    generalize w6.setCell ⟨mb,4,none⟩ (.slice (some ⟨gg,0,none⟩) (j+1) cp')=w7 at HI7 HB7 HC7 HR7 hs7 ⊢
    go_wp2_with fail
    exact ⟨⟨j+1,_,_,cp',by omega,by go_num,hxs7,HXS7,hs7,HB7,HR7,HC7,HI7⟩,by simp [intOf];omega⟩
  ·obtain rfl:j=n:=by omega
   have hj1:¬ (j:Int)<(j:Int):=by omega
   obtain ⟨c0,c1,c2,c3,c4,cf⟩:=blk5 HCr.out
   obtain ⟨z0,z1,z2,z3,z4,zf⟩:=blk5 HRr.out
   have hIt:ItemsAt (hidden (offB w.heap.size none) (((((wr.setCell ⟨w.heap.size,0,none⟩ (.int .u8 4)).setCell ⟨w.heap.size,1,none⟩ (.int .i64 0)).setCell ⟨w.heap.size,2,none⟩ (.string ⟨#[]⟩)).setCell ⟨w.heap.size,3,none⟩ (.slice none 0 0)).setCell ⟨w.heap.size,4,none⟩ (.slice a j cp))) (.slice a j cp) l:=by
    have h1:=HIr.out.out (by omega)
    rw [HXS.out,List.take_of_length_le (by rw [HN.out];exact Nat.le_refl _)] at h1
    exact h1.carry fun k hk hP=>⟨offB_none.2 (by have:=offB_none.1 hP;omega),heap_set5 _ _ _ _ _ _ _ _ (by have:=offB_none.1 hP;omega)⟩
   have HNV:Hid (NewV w.heap.size (((((wr.setCell ⟨w.heap.size,0,none⟩ (.int .u8 4)).setCell ⟨w.heap.size,1,none⟩ (.int .i64 0)).setCell ⟨w.heap.size,2,none⟩ (.string ⟨#[]⟩)).setCell ⟨w.heap.size,3,none⟩ (.slice none 0 0)).setCell ⟨w.heap.size,4,none⟩ (.slice a j cp)) (listJ l) (.agg #[.int .u8 4,.int .i64 0,.string ⟨#[]⟩,.slice none 0 0,.slice a j cp])):=valAt_mk (by decide) (by decide) (by decide) (by decide) (by decide) (strsAt_nil _) hIt
   clear hIt HIr HXS HCr HRr
   go_wp2_with fail
   exact bodyPost_ret (v:=.agg #[.int .u8 4,.int .i64 0,.string ⟨#[]⟩,.slice none 0 0,.slice a j cp]) (by simp [results,Tryz.results30,go_sem,z0,z1,z2,z3,z4]) rfl ⟨⟨4,0,⟨#[]⟩,none,0,0,a,j,cp⟩,rfl,bel_set (bel_set (bel_set (bel_set (bel_set HBr.out (Nat.le_refl _) _) (Nat.le_refl _) _) (Nat.le_refl _) _) (Nat.le_refl _) _) (Nat.le_refl _) _,HNV.out⟩
end
end Go.Proofs.YtchinankclckjaaGreatDoor
