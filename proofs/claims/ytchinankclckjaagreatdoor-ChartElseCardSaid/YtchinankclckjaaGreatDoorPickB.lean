/-
  value.find in names that are in their row: where a name stands.
  value.Get of an object of which the names are in their row.
  pick.take at each type of result.
-/
import Derived.Test.YtchinankclckjaaGreatDoorSignP
import Derived.Test.YtchinankclckjaaGreatDoorChartA
import Derived.Test.YtchinankclckjaaGreatDoorChartV
import Derived.Shelf.SlSorted.Search
import Derived.Ground.SlsoProg
import Derived.IntWalk
import Derived.Deep.Light
import Derived.BigQuiet
import Derived.Test.YtchinankclckjaaGreatDoorRefPick
import Derived.Test.YtchinankclckjaaGreatDoorPickA
namespace Go.Proofs.YtchinankclckjaaGreatDoor
set_option maxHeartbeats 8000000
section
set_option maxRecDepth 100000
open Go.RowKit Go.Shelf Go.Sort
def srchRen:Go.Shelf.Ren:=⟨fun | 16=>133 | n=>n,fun | 3=>3 | 35=>184 | 4=>4 | 38=>45 | n=>n,fun | n=>n⟩
theorem srchLays:Go.Proofs.SlLaysO.n16 Tryz.prog srchRen:={
 mixed:=by kernel_rfl
 f16:=Tryz.func133.trans (congrArg some (by kernel_rfl))
 t3:=Tryz.underlying3
 a3:=Tryz.isAgg3
 z3:=Tryz.sizeOf3
 v3:=Tryz.zeroValue3
 t4:=Tryz.underlying4
 a4:=Tryz.isAgg4
 z4:=Tryz.sizeOf4
 v4:=Tryz.zeroValue4
 t35:=Tryz.underlying184
 a35:=Tryz.isAgg184
 z35:=Tryz.sizeOf184
 v35:=Tryz.zeroValue184
 t38:=Tryz.underlying45
 a38:=Tryz.isAgg45
 z38:=Tryz.sizeOf45
 v38:=Tryz.zeroValue45 }
/-! Plainly. -/
theorem count_lt:∀ (n c:Nat),c≤n→(List.range n).countP (fun i=>decide (i<c))=c
 | 0,c,h=>by simp;omega
 | n+1,c,h=>by
   rw [List.range_succ,List.countP_append,List.countP_singleton]
   by_cases hc:c≤n
   ·rw [count_lt n c hc,if_neg (by simp;omega)]
    rfl
   ·obtain rfl:c=n+1:=by omega
    have h2:=count_lt n n (Nat.le_refl n)
    have h3:(List.range n).countP (fun i=>decide (i<n+1))=(List.range n).countP (fun i=>decide (i<n)):=List.countP_congr fun i hi=>by
     have:=List.mem_range.1 hi
     simp only [decide_eq_true_eq]
     omega
    rw [h3,h2,if_pos (by simp)]
theorem turns (p:Nat→Bool):∀ (n:Nat),(∀ a b,a≤b→b<n→p a=true→p b=true)→∃ c,c≤n∧(∀ i,i<c→p i=false)∧(∀ i,c≤i→i<n→p i=true)∧(List.range n).countP (fun i => !p i)=c
 | n,h=>by
   obtain ⟨c,h1,h2,h3⟩:∃ c,c≤n∧(∀ i,i<c→p i=false)∧(∀ i,c≤i→i<n→p i=true):=by
    induction n with
    | zero=>exact ⟨0,Nat.le_refl _,fun i hi=>by omega,fun i _ hi=>by omega⟩
    | succ n ih =>
      obtain ⟨c,h1,h2,h3⟩:=ih fun a b hab hb=>h a b hab (by omega)
      by_cases hcn:c<n
      ·exact ⟨c,by omega,h2,fun i hi hin=>by
        by_cases hi2:i<n
        ·exact h3 i hi hi2
        ·exact h c i hi hin (h3 c (Nat.le_refl _) hcn)⟩
      ·obtain rfl:c=n:=by omega
       cases hp:p c with
       | true=>exact ⟨c,by omega,h2,fun i hi hin=>by
        have e:i=c:=by omega
        rw [e]
        exact hp⟩
       | false=>exact ⟨c+1,by omega,fun i hi=>by
        by_cases hic:i<c
        ·exact h2 i hic
        ·have e:i=c:=by omega
         rw [e];exact hp,fun i hi hin=>by omega⟩
   refine ⟨c,h1,h2,h3,?_⟩
   rw [← count_lt n c h1]
   refine List.countP_congr fun i hi=>?_
   have hin:=List.mem_range.1 hi
   by_cases hic:i<c
   ·rw [h2 i hic];simp [hic]
   ·rw [h3 i (by omega) hin];simp [hic]
def nameGe (l:List ByteArray) (nm:ByteArray) (i:Nat):Bool:=!(Op.bytesLess (l.getD i ByteArray.empty).toList nm.toList)
theorem nameGe_mono {l:List ByteArray} (h:ascB l=true) (nm:ByteArray):∀ a b,a≤b→b<l.length→nameGe l nm a=true→nameGe l nm b=true:=by
 intro a b hab hb ha
 induction b with
 | zero => obtain rfl:a = 0:=by omega
           exact ha
 | succ b ih =>
   by_cases e:a=b+1
   ·rw [← e];exact ha
   ·have h1:=ih (by omega) (by omega)
    have h2:lessAt l b=true:=by
     rw [ascB,List.all_eq_true] at h
     exact h b (List.mem_range.2 (by omega))
    unfold nameGe at h1 ⊢
    unfold lessAt at h2
    generalize (l.getD b ByteArray.empty).toList=x at h1 h2
    generalize (l.getD (b+1) ByteArray.empty).toList=y at h2 ⊢
    simp only [Bool.not_eq_true'] at h1 ⊢
    cases hy:Op.bytesLess y nm.toList with
    | false=>rfl
    | true=>rw [bl_trans _ _ _ h2 hy] at h1;cases h1
theorem asc_lt {l:List ByteArray} (h:ascB l=true) {i j:Nat} (hij:i<j) (hj:j<l.length):Op.bytesLess (l.getD i ByteArray.empty).toList (l.getD j ByteArray.empty).toList=true:=by
 induction j with
 | zero=>omega
 | succ j ih =>
   have h2:lessAt l j=true:=by
    rw [ascB,List.all_eq_true] at h
    exact h j (List.mem_range.2 (by omega))
   unfold lessAt at h2
   by_cases e:i=j
   ·rw [e];exact h2
   ·exact bl_trans _ _ _ (ih (by omega) (by omega)) h2
theorem getN_turn {l:List ByteArray} {xs:List JV} {nm:ByteArray} {c:Nat} (hl:l.length=xs.length) (hc:c≤l.length) (h1:∀ i,i<c→nameGe l nm i=false) (h2:∀ i,c≤i→i<l.length→nameGe l nm i=true) (ha:ascB l=true) :
 getN l xs nm=if ∃ s,l[c]?=some s∧s.data.toList=nm.data.toList then xs[c]? else none:=by
 have hlt:∀ j s,j<c→l[j]?=some s→s.data.toList≠nm.data.toList:=fun j s hj hs e=>by
  have:=h1 j hj
  unfold nameGe at this
  rw [List.getD_eq_getElem?_getD,hs,Option.getD_some,toList_data,toList_data,e] at this
  simp only [Bool.not_eq_false'] at this
  rw [bl_irrefl] at this
  cases this
 by_cases hx:∃ s,l[c]?=some s∧s.data.toList=nm.data.toList
 ·rw [if_pos hx]
  obtain ⟨s,hs,he⟩:=hx
  rw [getN_at hl hlt (fun t ht=>by rw [hs] at ht;cases ht;exact he),if_pos (List.getElem?_eq_some_iff.1 hs).1]
 ·rw [if_neg hx]
  have hall:∀ s ∈ l,s.data.toList≠nm.data.toList:=fun s hs e=>by
   obtain ⟨j,hj⟩:=List.getElem?_of_mem hs
   have hjl:=(List.getElem?_eq_some_iff.1 hj).1
   by_cases hjc:j<c
   ·exact hlt j s hjc hj e
   ·by_cases hjc2:j=c
    ·exact hx ⟨s,by rw [← hjc2];exact hj,e⟩
    ·obtain ⟨t,ht⟩:∃ t,l[c]?=some t:=⟨_,List.getElem?_eq_getElem (by omega)⟩
     have h3:=h2 c (Nat.le_refl _) (by omega)
     have h4:=asc_lt ha (show c<j by omega) hjl
     unfold nameGe at h3
     rw [List.getD_eq_getElem?_getD,ht,Option.getD_some] at h3
     rw [List.getD_eq_getElem?_getD,List.getD_eq_getElem?_getD,ht,hj,Option.getD_some,Option.getD_some] at h4
     rw [toList_data,toList_data] at h3 h4
     rw [e] at h4
     rw [h4] at h3
     cases h3
  clear h1 h2 hlt hx hc ha
  induction l generalizing xs with
  | nil=>rfl
  | cons s r ih =>
    cases xs with
    | nil=>rfl
    | cons x xs =>
      rw [getN,if_neg (hall s (by simp))]
      exact ih (by simpa using hl) (fun t ht=>hall t (by simp [ht]))
/-! The walks. -/
theorem findClosure_any (ba bx blk off n cap:Nat) (s nm:ByteArray) (i:Nat) (W:World) (hi:i<n)
 (ha:W.cell? ⟨ba,0,none⟩=some (.slice (some ⟨blk,off,none⟩) n cap)) (hx:W.cell? ⟨bx,0,none⟩=some (.string nm)) (hc:W.cell? ⟨blk,off+i,none⟩=some (.string s)) :
 Calls Tryz.prog 134 (#[.int .i64 i] ++ #[.pointer (some ⟨ba,0,none⟩),.pointer (some ⟨bx,0,none⟩)]) W fun e w'=>e=.returned (.bool (!(Op.bytesLess s.toList nm.toList)))∧∃ q,w'=W.drewN q:=by
 have hiz:(i:Int)<(n:Int):=by omega
 go_enter Tryz.func134,Tryz.ntmps134
 go_wp2
 go_region
 all_goals go_wp2
 all_goals go_ret
 all_goals exact ⟨rfl,1,rfl⟩
structure TurnAt (l:List ByteArray) (nm:ByteArray) (c:Nat):Prop where
 le:c≤l.length
 low:∀ i,i<c→nameGe l nm i=false
 high:∀ i,c≤i→i<l.length→nameGe l nm i=true
def FindPost (l:List ByteArray) (nm:ByteArray) (w:World) (e:Ending) (w':World):Prop :=
 ∃ (c:Nat) (b:Bool),e=.returned (.tuple #[.int .i64 c,.bool b])∧TurnAt l nm c∧(b=true↔∃ s,l[c]?=some s∧s.data.toList=nm.data.toList)∧Below w.heap.size w w'
theorem find_any (l:List ByteArray) (v:Value) (nm:ByteArray) (w:World) (h:StrsAt w v l) (ha:ascB l=true) (hl:l.length≤1000000000) :
 Calls Tryz.prog 122 #[v,.string nm] w (FindPost l nm w):=by
 obtain ⟨a,cap,rfl,h1,h2,hc⟩:=h.parts
 obtain ⟨w0,hw0⟩:∃ y,y=(w.alloc (.cells #[.slice a l.length cap] 26)).alloc (.cells #[.string nm] 9):=⟨_,rfl⟩
 have hB0:Below w.heap.size w w0:=by rw [hw0];exact bel_alloc (bel_alloc (Below.refl _ _) _) _
 have hs0:w0.heap.size=w.heap.size+2:=by rw [hw0,size_al,size_al]
 have ba0:w0.cell? ⟨w.heap.size,0,none⟩=some (.slice a l.length cap):=by
  have:BlkAt w0 w.heap.size 26 #[.slice a l.length cap]:=by rw [hw0];exact (blkAt_new w _ _).alloc _
  exact this.cell 0
 have bx0:w0.cell? ⟨w.heap.size+1,0,none⟩=some (.string nm):=by
  have:BlkAt w0 (w.heap.size+1) 9 #[.string nm]:=by
   rw [hw0]
   have:=blkAt_new (w.alloc (.cells #[.slice a l.length cap] 26)) #[.string nm] 9
   rwa [size_al] at this
  exact this.cell 0
 have hasc:=ascending_any l (.slice a l.length cap) w0 (h.keep hB0)
 rw [ha] at hasc
 have HASC:=Lib.hid hasc
 obtain ⟨c,hcl,hlow,hhigh,hcnt⟩:=turns (nameGe l nm) l.length (nameGe_mono ha nm)
 have hT:TurnAt l nm c:=⟨hcl,hlow,hhigh⟩
 have eg:∀ args w,(callFunc 134 args).run Tryz.prog w=.ok (.enter 134 args) w:=enters_of Tryz.func134 (by kernel_rfl) rfl
 have hS:∀ W,Below w0.heap.size w0 W→Calls Tryz.prog 133 #[.int .i64 l.length,.func (.func 134) #[] #[.pointer (some ⟨w.heap.size,0,none⟩),.pointer (some ⟨w.heap.size+1,0,none⟩)]] W fun e w'=>e=.returned (.int .i64 c)∧∃ q os,w'=grow (W.drewN q) os:=fun W hbW=>by
  have:=Any.sort_Search srchLays 134 #[.pointer (some ⟨w.heap.size,0,none⟩),.pointer (some ⟨w.heap.size+1,0,none⟩)] l.length (nameGe l nm) W eg (by omega) (fun m os i hi=>by
   obtain ⟨s,hs⟩:∃ s,l[i]?=some s:=⟨_,List.getElem?_eq_getElem hi⟩
   obtain ⟨b,o,rfl,hcell⟩:=hc i s hs
   have hcW:=cell_keep hbW (cell_keep hB0 hcell)
   have hg:nameGe l nm i = !(Op.bytesLess s.toList nm.toList):=by
    unfold nameGe
    rw [List.getD_eq_getElem?_getD,hs,Option.getD_some]
   rw [hg]
   have k1:=cell_keep hbW ba0
   have k2:=cell_keep hbW bx0
   exact (findClosure_any w.heap.size (w.heap.size+1) b o l.length cap s nm i _ hi (cell_grown (World.block_lt_of_cell? _ _ k1) k1 m os) (cell_grown (World.block_lt_of_cell? _ _ k2) k2 m os) (cell_grown (World.block_lt_of_cell? _ _ hcW) hcW m os)).mono fun _ _ ⟨he,q,hq⟩=>⟨he,q,#[],by rw [hq,grow_empty]⟩) (nameGe_mono ha nm)
  rw [hcnt] at this
  exact this
 have HS:=Lib.hid hS
 have HT:=Lib.hid hT
 have HB0:=Lib.hid hB0
 have HC:=Lib.hid hc
 have HW0:=Lib.hid hw0
 have e16:∀ args w,(callFunc 133 args).run Tryz.prog w=.ok (.enter 133 args) w:=enters_of Tryz.func133 (by kernel_rfl) rfl
 obtain ⟨n,hn⟩:∃ n,l.length=n:=⟨_,rfl⟩
 rw [hn] at HASC HS hcl h1 ba0 HW0 hl ⊢
 have HN:=Lib.hid hn
 clear hS hT hw0 hc hasc hcnt hlow hhigh h ha hn hB0 h2
 go_enter Tryz.func122,Tryz.ntmps122
 go_wp2_with fail
 rw [← HW0.out]
 refine HASC.out.mono ?_
 rintro e w1 ⟨rfl,hb1⟩
 have c1:=cell_keep hb1 ba0
 have c2:=cell_keep hb1 bx0
 have HB1:=Lib.hid hb1
 clear hb1 HASC
 go_wp2_with (go_at_fn 133;refine (HS.out _ HB1.out).mono ?_;rintro e w2 ⟨rfl,hgr⟩)
 have hb12:Below w1.heap.size w1 w2:=by
  obtain ⟨q,os,rfl⟩:=hgr
  exact below_grown_sl _ w1 q os (Nat.le_refl _)
 have c3:=cell_keep hb12 c1
 have c4:=cell_keep hb12 c2
 have HB2:Hid (Below w.heap.size w w2):=below_more HB0.out (below_more HB1.out hb12)
 clear hgr c1 c2 HS hb12
 have i0:(0:Int)≤(c:Int):=by omega
 by_cases hcn:c<n
 ·obtain ⟨s,hs⟩:∃ s,l[c]?=some s:=⟨_,List.getElem?_eq_getElem (by rw [HN.out];exact hcn)⟩
  obtain ⟨b,o,rfl,hcell⟩:=HC.out c s hs
  have c5:=cell_keep HB2.out hcell
  have i1:(c:Int)<(n:Int):=by omega
  have g1:decide ((c:Int)<(n:Int))=true:=decide_eq_true i1
  have HSS:=Lib.hid hs
  clear hcell hs hcn
  by_cases he:s.data.toList=nm.data.toList
  ·have heq:(s.toList == nm.toList)=true:=by rw [toList_data,toList_data,he];simp
   have HE:=Lib.hid he
   clear he
   go_quiet (fail)
   go_wp2_with fail
   go_ret2
   exact ⟨c,true,rfl,HT.out,⟨fun _=>⟨s,HSS.out,HE.out⟩,fun _=>rfl⟩,by first | exact HB2.out | exact bel_drew HB2.out | exact bel_drewN HB2.out _⟩
  ·have heq:(s.toList == nm.toList)=false:=by rw [toList_data,toList_data];simpa using he
   have HE:=Lib.hid he
   clear he
   go_quiet (fail)
   go_wp2_with fail
   go_ret2
   exact ⟨c,false,rfl,HT.out,⟨fun e=>(by cases e),fun ⟨t,ht,e⟩=>by rw [HSS.out] at ht;cases ht;exact absurd e HE.out⟩,by first | exact HB2.out | exact bel_drew HB2.out | exact bel_drewN HB2.out _⟩
 ·have i1:¬ (c:Int)<(n:Int):=by omega
  have g1:decide ((c:Int)<(n:Int))=false:=decide_eq_false i1
  have hnone:l[c]?=none:=List.getElem?_eq_none (by rw [HN.out];omega)
  have HNO:=Lib.hid hnone
  clear hnone hcn
  go_quiet (fail)
  go_wp2_with fail
  go_ret2
  exact ⟨c,false,rfl,HT.out,⟨fun e=>(by cases e),fun ⟨t,ht,e⟩=>by rw [HNO.out] at ht;cases ht⟩,by first | exact HB2.out | exact bel_drew HB2.out | exact bel_drewN HB2.out _⟩
end

section
set_option maxRecDepth 100000
open Go.RowKit Go.Shelf
def GetQ (R:Option JV) (w:World) (e:Ending) (w':World):Prop :=
 Below w.heap.size w w'∧match R with
  | none=>e=.returned (.tuple #[zV,.bool false])
  | some y=>∃ yv:VC,e=.returned (.tuple #[yv.val,.bool true])∧NewV w.heap.size w' y yv.val
theorem Get_any (V:JV) (v:Value) (nm:ByteArray) (w:World) (h:ValAt (pureW w) V v) (h5:V.k=5) (hl:V.names.length=V.items.length) (ha:ascB V.names=true) (hwt:wt V≤1000000000) (R:Option JV) (hR:Hid (getV V nm=R)) :
 Calls Tryz.prog 98 #[v,.string nm] w (GetQ R w):=by
 obtain ⟨vn,vi,rfl,k0,k1,n0,n1,ht,hns,his⟩:=valAt_iff.1 h
 obtain ⟨ai,icap,rfl,hI1,hI2⟩:=his.parts
 obtain ⟨an,ncap,rfl,hN1,hN2,hN3⟩:=hns.parts
 have HIC:=Lib.hid hI2
 have HP:=Lib.hid h
 obtain ⟨n,hn⟩:∃ n,V.items.length=n:=⟨_,rfl⟩
 have hln:n≤1000000000:=by
  have h1:=len_wtL V.items
  have h2:wtL V.items≤wt V:=by rw [wt_eq];omega
  omega
 obtain ⟨w0,hw0⟩:∃ x,x=(w.alloc (.cells #[.int .u8 V.k,.int .i64 V.n,.string V.t,.slice an V.names.length ncap,.slice ai V.items.length icap] 29)).alloc (.cells #[.int .u8 0,.int .i64 0,.string ⟨#[]⟩,.slice none 0 0,.slice none 0 0] 29):=⟨_,rfl⟩
 have hBw:Below w.heap.size w w0:=by rw [hw0];exact bel_alloc (bel_alloc (Below.refl _ _) _) _
 have s2:w0.heap.size=w.heap.size+2:=by rw [hw0,size_al,size_al]
 have HA:Hid (BlkAt w0 w.heap.size 29 #[.int .u8 V.k,.int .i64 V.n,.string V.t,.slice an V.names.length ncap,.slice ai V.items.length icap]):=by rw [hw0];exact (blkAt_new w _ _).alloc _
 have HZ:Hid (BlkAt w0 (w.heap.size+1) 29 #[.int .u8 0,.int .i64 0,.string ⟨#[]⟩,.slice none 0 0,.slice none 0 0]):=by
  rw [hw0]
  have:=blkAt_new (w.alloc (.cells #[.int .u8 V.k,.int .i64 V.n,.string V.t,.slice an V.names.length ncap,.slice ai V.items.length icap] 29)) #[.int .u8 0,.int .i64 0,.string ⟨#[]⟩,.slice none 0 0,.slice none 0 0] 29
  rwa [size_al] at this
 have HF:=Lib.hid (find_any V.names (.slice an V.names.length ncap) nm w0 ((hns.imp fun p u hu=>(pure_cell hu).2).keep hBw) ha (by omega))
 have HR:=Lib.hid (hR.out)
 have HW0:=Lib.hid hw0
 have HB0:=Lib.hid hBw
 have HASC:=Lib.hid ha
 have HL:=Lib.hid hl
 have HN:=Lib.hid hn
 have HWT:=Lib.hid hwt
 have H5:=Lib.hid h5
 rw [hl,hn] at HW0 HA HF ⊢
 rw [hn] at hI1
 obtain ⟨a0,a1,a2,a3,a4,af⟩:=b5 HA.out
 clear hw0 hBw hR hI2 hns his h ha hl hn hwt hN2 hN3
 have hb5:(V.k != 5)=false:=by rw [h5];rfl
 clear h5
 go_enter Tryz.func98,Tryz.ntmps98
 go_wp2_with fail
 rw [← HW0.out]
 refine HF.out.mono ?_
 rintro e w1 ⟨c,b,rfl,hT,hb,hb1⟩
 obtain ⟨a0,a1,a2,a3,a4,af⟩:=b5 (BlkAt.keep HA.out hb1)
 have HZ1:=Lib.hid (BlkAt.keep HZ.out hb1)
 have HB1:=Lib.hid (below_more HB0.out hb1)
 have hz1:=BlkAt.lt HZ1.out
 have hcl:=hT.le
 rw [HL.out,HN.out] at hcl
 have hg:=getN_turn (xs:=V.items) HL.out hT.le hT.low hT.high HASC.out
 have hRg:=HR.out
 unfold getV at hRg
 rw [if_pos H5.out,hg] at hRg
 clear HF HA HZ hb1 hg hT
 cases b with
 | false =>
   have hne:¬ ∃ s,V.names[c]?=some s∧s.data.toList=nm.data.toList:=fun e=>by cases hb.2 e
   rw [if_neg hne] at hRg
   subst hRg
   clear hne hb
   obtain ⟨z0,z1,z2,z3,z4,zf⟩:=b5 HZ1.out
   go_wp2_with fail
   exact bodyPost_ret (v:=.tuple #[zV,.bool false]) (by simp [results,Tryz.results98,go_sem,zV,z0,z1,z2,z3,z4]) rfl ⟨bset5 HB1.out (by omega) _ _ _ _ _,rfl⟩
 | true =>
   obtain ⟨s,hs,he⟩:=hb.1 rfl
   rw [if_pos ⟨s,hs,he⟩] at hRg
   have hcn:c<n:=by have:=(List.getElem?_eq_some_iff.1 hs).1;rw [HL.out,HN.out] at this;exact this
   obtain ⟨y,hy⟩:∃ y,V.items[c]?=some y:=⟨_,List.getElem?_eq_getElem (by rw [HN.out];exact hcn)⟩
   rw [hy] at hRg
   subst hRg
   obtain ⟨ib,io,xn,xi,rfl,c0,c1,c2,c3,c4,q⟩:=HIC.out c y hy
   have hvy:ValAt (pureW w) y (.agg #[.int .u8 y.k,.int .i64 y.n,.string y.t,xn,xi]):=valAt_iff.2 ⟨_,_,rfl,q⟩
   obtain ⟨yc,hyc⟩:=valAt_vc hvy
   obtain ⟨-,-,-,-,-,q1,q2⟩:=q
   obtain ⟨xan,xncap,rfl,-,-,-⟩:=q1.parts
   obtain ⟨xai,xicap,rfl,-,-⟩:=q2.parts
   have hwy:wt y≤1000000000:=by
    have h1:=wtL_mem (List.mem_of_getElem? hy)
    have h2:wtL V.items≤wt V:=by rw [wt_eq];omega
    have:=HWT.out
    omega
   have HCP:=Lib.hid (Copy_any y _ w1 (hvy.imp (pure_keep HB1.out)) hwy)
   have e0:=cell_keep HB1.out (pure_cell c0).2
   have e1:=cell_keep HB1.out (pure_cell c1).2
   have e2:=cell_keep HB1.out (pure_cell c2).2
   have e3:=cell_keep HB1.out (pure_cell c3).2
   have e4:=cell_keep HB1.out (pure_cell c4).2
   have i0:(0:Int)≤(c:Int):=by omega
   have i1:(c:Int)<(n:Int):=by omega
   have i2:¬ (n:Int)≤(c:Int):=by omega
   have hge:decide ((n:Int)≤(c:Int))=false:=decide_eq_false i2
   clear c0 c1 c2 c3 c4 q1 q2 hvy hyc hs he hb hy hwy
   go_wp2_with fail
   refine HCP.out.mono ?_
   rintro e w2 ⟨⟨yk,yn,yt,ya,yl,ycp,yb,ym,ye⟩,rfl,hb2,hnew⟩
   have HZ2:=BlkAt.keep HZ1.out hb2
   obtain ⟨z0,z1,z2,z3,z4,zf⟩:=b5 HZ2
   have hB2:=below_more HB1.out hb2
   have hs12:=HB1.out.size
   have HNEW:Hid (NewV w1.heap.size w2 y (VC.val ⟨yk,yn,yt,ya,yl,ycp,yb,ym,ye⟩)):=hnew
   have HB2:=Lib.hid hB2
   clear hnew hb2 hB2 HCP
   simp only [VC.val]
   go_wp2_with fail
   refine bodyPost_ret (v:=.tuple #[VC.val ⟨yk,yn,yt,ya,yl,ycp,yb,ym,ye⟩,.bool true]) (by simp [results,Tryz.results98,go_sem,VC.val,z0,z1,z2,z3,z4]) rfl ⟨bset5 HB2.out (by omega) _ _ _ _ _,⟨yk,yn,yt,ya,yl,ycp,yb,ym,ye⟩,rfl,?_⟩
   refine ValAt.carry HNEW.out fun k hk1 hk2=>?_
   have a:=offB_none.1 hk2
   exact ⟨offB_none.2 (by omega),heap_set5 _ _ _ _ _ _ _ _ (by omega)⟩
end

section
set_option maxRecDepth 100000
open Go.RowKit Go.Maps
def TakeB {α:Type} (C:JV→Int→α→World→Prop) (val:α→Value) (zero:Value) (R1:Option JV) (nm:ByteArray) (Q w0 w:World) (o B:Nat) (V:JV) (x:VC) (s:PS) (e:Ending) (w':World):Prop :=
 Sep w w' o (some B)∧match s with
  | .bad er=>e=.returned zero∧PSt Q w0 w' o B V x (.bad er)
  | .ok A=>match R1 with
    | none=>e=.returned zero∧PSt Q w0 w' o B V x (.bad 6)
    | some y=>∃ er tv,C y er tv w'∧((er=0∧e=.returned (val tv)∧PSt Q w0 w' o B V x (.ok (A++[nm])))∨(er≠0∧e=.returned zero∧PSt Q w0 w' o B V x (.bad er)))
def Up (B0:Nat) (W W':World):Prop:=W.heap.size≤W'.heap.size∧∀ k,B0≤k→k<W.heap.size→W'.heap[k]?=W.heap[k]?
theorem Up.of_sep {B0:Nat} {W W':World} {o B:Nat} (h:Sep W W' o (some B)) (ho:o<B0) (hB:B<B0):Up B0 W W' :=
 ⟨h.size,fun k hk hl=>h.block k hl (by omega) (fun e=>by have:=Option.some.inj e;omega)⟩
theorem Up.of_below {B0:Nat} {W W':World} (h:Below W.heap.size W W'):Up B0 W W':=⟨h.size,fun k _ hl=>h.block k hl⟩
theorem Up.trans {B0:Nat} {W W1 W':World} (h:Up B0 W W1) (k:Up B0 W1 W'):Up B0 W W':=⟨Nat.le_trans h.1 k.1,fun i hi hl=>(k.2 i hi (Nat.lt_of_lt_of_le hl h.1)).trans (h.2 i hi hl)⟩
theorem Up.val {B0:Nat} {W W':World} (h:Up B0 W W'):∀ p u,(hidden (offB B0 none) W).cell? p=some u→(hidden (offB B0 none) W').cell? p=some u :=
 hid_imp fun k hk ho=>⟨ho,h.2 k (offB_none.1 ho) hk⟩
theorem sepNew {w w1 w2:World} {o B:Nat} (h:Below w.heap.size w w1) (k:Sep w1 w2 o (some B)):Sep w w2 o (some B):=k.more h
theorem grown_sep {w w':World} {B:Nat} (h:w.grownBy w' (some B)) (o:Nat):Sep w w' o (some B):=⟨h.os,h.tape,h.output,h.size,fun k hk _ h2=>h.block k hk h2⟩
theorem ask_put {w':World} {B:Nat} {A:List ByteArray} {D:DataW Unit} {nm:ByteArray} {c:Int} (hn:nm.size≤maxLen)
 (hI:IsMap D) (hat:∀ s:ByteArray,s.size≤maxLen→D.atKey (.string s.data.toList) (.lit (.int .i64 0))=.lit (.int .i64 (cntA A s)))
 (hc:D.atKey (.string nm.data.toList) (.lit (.int .i64 0))=.lit (.int .i64 c)) {v:Int} (hv:v=c+1)
 (h:w'.ownsMap Tryz.prog 9 (plainElem Tryz.prog 3) B (A.length+1) (D.put (.string nm.data.toList) (.lit (.int .i64 v)))):AskAt w' B (A++[nm]):=by
 have hcc:c=(cntA A nm:Int):=by
  have:=hat nm hn
  rw [hc] at this
  injection this with h1
  injection h1
 have hk:WideAt.IsKeyLit (.string nm.data.toList:Lit):=by trivial
 refine ⟨_,by rw [List.length_append];exact h,?_,fun s hs=>?_⟩
 ·obtain ⟨es,rfl⟩:=hI
  exact ⟨_,DataW.put_eq _ _ _⟩
 ·rw [cntA_snoc]
  by_cases e:nm.data.toList=s.data.toList
  ·rw [if_pos e,← e,atKey_put_same hI hk,hv,hcc]
   have:cntA A nm=cntA A s:=by unfold cntA;rw [e]
   rw [this]
   rfl
  ·rw [if_neg e,atKey_put_other (fun e2=>e (by injection e2 with e3;exact e3.symm)),hat s hs]
   rfl
theorem POk.put {Q w0 w w':World} {o B:Nat} {V:JV} {x:VC} {A A':List ByteArray} (h:POk Q w0 w o B V x A) (hg:w.grownBy w' (some B)) (ha:AskAt w' B A'):POk Q w0 w' o B V x A' :=
 ⟨(grown_sep hg o).below h.bel h.lo (fun k hk=>by cases hk;exact h.lb),h.sub,h.val,h.five,h.len,h.asc,h.wt,h.lo,h.lb,h.ne,h.blk.grown hg (fun e=>h.ne (Option.some.inj e)),ha⟩
theorem PSt.set5 {Q w0 w:World} {o B:Nat} {V:JV} {x:VC} {s:PS} (h:PSt Q w0 w o B V x s) {b:Nat} (h1:w0.heap.size≤b) (h2:b≠o) (h3:b≠B) (v0 v1 v2 v3 v4:Value):PSt Q w0 (((((w.setCell ⟨b,0,none⟩ v0).setCell ⟨b,1,none⟩ v1).setCell ⟨b,2,none⟩ v2).setCell ⟨b,3,none⟩ v3).setCell ⟨b,4,none⟩ v4) o B V x s :=
 ((((h.set h1 h2 h3 0 v0).set h1 h2 h3 1 v1).set h1 h2 h3 2 v2).set h1 h2 h3 3 v3).set h1 h2 h3 4 v4
theorem Up.set5 {B0:Nat} {w w1:World} (h:Up B0 w w1) {b:Nat} (hb:b<B0) (v0 v1 v2 v3 v4:Value):Up B0 w (((((w1.setCell ⟨b,0,none⟩ v0).setCell ⟨b,1,none⟩ v1).setCell ⟨b,2,none⟩ v2).setCell ⟨b,3,none⟩ v3).setCell ⟨b,4,none⟩ v4) :=
 ⟨by simp only [setCell_size];exact h.1,fun k hk hl=>(heap_set5 _ _ _ _ _ _ _ _ (by omega)).trans (h.2 k hk hl)⟩
theorem pTakeList_any {Q w0 w:World} {o B:Nat} {V:JV} {x:VC} {s:PS} (h:PSt Q w0 w o B V x s) (nm:ByteArray) (hA:∀ A,s=.ok A→A.length≤900) (hn:nm.size≤maxLen) (g:Nat) (cb:Array Value) (C:JV→Int→Value→World→Prop)
 (eg:∀ args w,(callFunc g args).run Tryz.prog w=.ok (.enter g args) w) (R1:Option JV) (hR1:Hid (getV V nm=R1))
 (hcv:∀ y (yv:VC) W,R1=some y→Below w.heap.size w W→NewV w.heap.size W y yv.val→Calls Tryz.prog g (#[yv.val]++cb) W fun e W'=>∃ tv er,e=.returned (.tuple #[tv,.int .i64 er])∧Below W.heap.size W W'∧C y er tv W')
 (hC:∀ y er tv W W',Up w.heap.size W W'→C y er tv W→C y er tv W') :
 Calls Tryz.prog 70 #[.pointer (some ⟨o,0,none⟩),.string nm,.func (.func g) #[] cb] w (TakeB C (fun v=>v) (.slice none 0 0) R1 nm Q w0 w o B V x s):=by
 have HE:=Lib.hid (pErr_any h)
 have HH:=Lib.hid h
 have HCV:=Lib.hid hcv
 have HC:=Lib.hid hC
 cases s with
 | bad er =>
   have heb:(er != 0)=true:=by rw [bne_iff_ne];exact PBad.ne h
   clear h hcv hC hA hR1
   go_enter Tryz.func70,Tryz.ntmps70
   simp only [errOf] at HE
   go_wp2_with fail
   refine HE.out.mono ?_
   rintro e' w' ⟨rfl,rfl⟩
   go_wp2_with fail
   go_ret
   exact ⟨Sep.of_below (Below.refl _ _) _ _,rfl,HH.out⟩
 | ok A =>
   have HO:Hid (POk Q w0 w o B V x A):=HH.out
   obtain ⟨k0,k1,k2,k3,k4,k5,k6,kf⟩:=b7 HO.out.blk
   have HA:=Lib.hid (hA A rfl)
   have HG:=Lib.hid (Get_any V x.val nm w ((HO.out.val.imp HO.out.sub).imp (pure_keep HO.out.bel)) HO.out.five HO.out.len HO.out.asc HO.out.wt R1 hR1)
   have hol:=BlkAt.lt HO.out.blk
   have hbl:=HO.out.ask.lt
   obtain ⟨xk,xn,xt,xa,xl,xc,xb,xm,xe⟩:=x
   have HN:=Lib.hid hn
   clear h hcv hC hA hR1 hn
   go_enter Tryz.func70,Tryz.ntmps70
   simp only [errOf] at HE
   simp only [VC.val] at HG
   go_wp2_with fail
   refine HE.out.mono ?_
   rintro e' w' ⟨rfl,rfl⟩
   go_wp2_with fail
   refine HG.out.mono ?_
   rintro e w1 ⟨hb1,hp⟩
   clear HG k0 k1 k2 k3 k4 k5 k6 kf
   cases R1 with
   | none =>
     subst hp
     simp only [zV]
     have hb2:=bel_alloc hb1 (.cells #[.int .u8 0,.int .i64 0,.string ⟨#[]⟩,.slice none 0 0,.slice none 0 0] 29)
     have HF:=Lib.hid (pFail_any (PSt.keep (s:=.ok A) HO.out hb2) 6)
     have HB2:=Lib.hid hb2
     clear hb1 hb2
     go_wp2_with fail
     refine HF.out.mono ?_
     rintro e' w3 ⟨rfl,hs3,hsp⟩
     simp only [failQ] at hs3
     rw [if_neg (by decide)] at hs3
     have HS3:=Lib.hid hs3
     have HSP:=Lib.hid (sepNew HB2.out hsp)
     clear hs3 hsp
     go_wp2_with fail
     go_ret
     exact ⟨HSP.out,rfl,HS3.out⟩
   | some y =>
     obtain ⟨⟨yk,yn,yt,ya,yl,yc,yb,ym,ye⟩,rfl,hnew⟩:=hp
     simp only [VC.val] at hnew ⊢
     have hb2:=bel_alloc hb1 (.cells #[.int .u8 yk,.int .i64 yn,.string yt,.slice ya yl yc,.slice yb ym ye] 29)
     have hnew2:NewV w.heap.size (w1.alloc (.cells #[.int .u8 yk,.int .i64 yn,.string yt,.slice ya yl yc,.slice yb ym ye] 29)) y (VC.val ⟨yk,yn,yt,ya,yl,yc,yb,ym,ye⟩):=ValAt.carry hnew fun k hk1 hk2=>⟨hk2,(bel_alloc (Below.refl _ w1) _).block k hk1⟩
     have hcv:=HCV.out y ⟨yk,yn,yt,ya,yl,yc,yb,ym,ye⟩ _ rfl hb2 hnew2
     simp only [VC.val] at hcv
     have HV:=Lib.hid hcv
     have HB2:=Lib.hid hb2
     clear hb1 hb2 hnew hnew2 hcv HCV
     go_wp2_with (go_at_fn g;refine HV.out.mono ?_)
     rintro e w3 ⟨tv,er,rfl,hb3,hct⟩
     have hb03:=below_more HB2.out hb3
     have HS3:Hid (POk Q w0 w3 o B V ⟨xk,xn,xt,xa,xl,xc,xb,xm,xe⟩ A):=PSt.keep (s:=.ok A) HO.out hb03
     have HCT:=Lib.hid hct
     have HB3:=Lib.hid hb03
     clear hb3 hct hb03 HV HB2
     by_cases her:er=0
     ·subst her
      obtain ⟨D,hown,him,hat0⟩:=HS3.out.ask
      have HOW:=Lib.hid hown
      have HIM:=Lib.hid him
      have HAT:=Lib.hid hat0
      obtain ⟨k0,k1,k2,k3,k4,k5,k6,kf⟩:=b7 HS3.out.blk
      clear hown him hat0
      go_wp2_with (first
      | (at_lookup;refine wpList_lookup_own_int _ rfl _ _ 104 rfl 9 3 .i64 askLaw Tryz.underlying104 Tryz.underlying3 (zeroInt _) B A.length D rfl HOW.out _ _ rfl (askKey HN.out) ?_;intro c hat hwc)
      | (at_mapUpdate;refine wpList_mapUpdate_own _ rfl _ _ _ 104 rfl 9 3 askLaw Tryz.underlying104 _ B A.length _ rfl HOW.out (by have:=HA.out;unfold maxLen;omega) _ _ _ rfl rfl (askKey HN.out) _ [] (plainElem_int Tryz.underlying3 (wrap64_wf _)) ?_;intro w4 hown4 hgrow4)
      | fail)
      go_ret
      have hcc:D.atKey (.string nm.data.toList) (.lit (.int .i64 0))=.lit (.int .i64 c):=hat
      have hcn:c=(cntA A nm:Int):=by
       have:=HAT.out nm HN.out
       rw [hcc] at this
       injection this with h1
       injection h1
      have hca:=cntA_le A nm
      have hask:=ask_put HN.out HIM.out HAT.out hcc (IntWalk.wrap64_in (c+1) (by have:=HA.out;omega)) hown4
      have hs:=grown_sep hgrow4 o
      exact ⟨sepNew HB3.out hs,0,tv,HC.out _ _ _ _ _ (Up.of_sep hs hol hbl) HCT.out,Or.inl ⟨rfl,rfl,POk.put HS3.out hgrow4 hask⟩⟩
     ·have heb:(er != 0)=true:=by rw [bne_iff_ne];exact her
      have HF:=Lib.hid (pFail_any (s:=.ok A) HS3.out er)
      have HER:=Lib.hid her
      clear her
      go_wp2_with fail
      refine HF.out.mono ?_
      rintro e' w4 ⟨rfl,hs4,hsp⟩
      simp only [failQ] at hs4
      rw [if_neg HER.out] at hs4
      have HS4:=Lib.hid hs4
      have HSP:=Lib.hid hsp
      clear hs4 hsp
      go_wp2_with fail
      go_ret
      exact ⟨sepNew HB3.out HSP.out,er,tv,HC.out _ _ _ _ _ (Up.of_sep HSP.out hol hbl) HCT.out,Or.inr ⟨HER.out,rfl,HS4.out⟩⟩
theorem pTakeVal_any {Q w0 w:World} {o B:Nat} {V:JV} {x:VC} {s:PS} (h:PSt Q w0 w o B V x s) (nm:ByteArray) (hA:∀ A,s=.ok A→A.length≤900) (hn:nm.size≤maxLen) (g:Nat) (cb:Array Value) (C:JV→Int→VC→World→Prop)
 (eg:∀ args w,(callFunc g args).run Tryz.prog w=.ok (.enter g args) w) (R1:Option JV) (hR1:Hid (getV V nm=R1)) (hw0:w0.heap.size≤w.heap.size) (hBw:B<w.heap.size)
 (hcv:∀ y (yv:VC) W,R1=some y→Below w.heap.size w W→NewV (w.heap.size+2) W y yv.val→Calls Tryz.prog g (#[yv.val]++cb) W fun e W'=>∃ (tv:VC) (er:Int),e=.returned (.tuple #[tv.val,.int .i64 er])∧Below W.heap.size W W'∧C y er tv W')
 (hC:∀ y er tv W W',Up (w.heap.size+2) W W'→C y er tv W→C y er tv W') :
 Calls Tryz.prog 67 #[.pointer (some ⟨o,0,none⟩),.string nm,.func (.func g) #[] cb] w (TakeB C VC.val zV R1 nm Q w0 w o B V x s):=by
 obtain ⟨W,hW⟩:∃ W,W=(w.alloc (.cells #[.int .u8 0,.int .i64 0,.string ⟨#[]⟩,.slice none 0 0,.slice none 0 0] 29)).alloc (.cells #[.int .u8 0,.int .i64 0,.string ⟨#[]⟩,.slice none 0 0,.slice none 0 0] 29):=⟨_,rfl⟩
 have hbW:Below w.heap.size w W:=by rw [hW];exact bel_alloc (bel_alloc (Below.refl _ _) _) _
 have hsW:W.heap.size=w.heap.size+2:=by rw [hW,size_al,size_al]
 have HRB:Hid (BlkAt W w.heap.size 29 #[.int .u8 0,.int .i64 0,.string ⟨#[]⟩,.slice none 0 0,.slice none 0 0]):=by
  rw [hW]
  exact (blkAt_new w _ _).alloc _
 have HZB:Hid (BlkAt W (w.heap.size+1) 29 #[.int .u8 0,.int .i64 0,.string ⟨#[]⟩,.slice none 0 0,.slice none 0 0]):=by
  rw [hW]
  have:=blkAt_new (w.alloc (.cells #[.int .u8 0,.int .i64 0,.string ⟨#[]⟩,.slice none 0 0,.slice none 0 0] 29)) #[.int .u8 0,.int .i64 0,.string ⟨#[]⟩,.slice none 0 0,.slice none 0 0] 29
  rwa [size_al] at this
 have HW:=Lib.hid hW
 have HBW:=Lib.hid hbW
 have HH:=Lib.hid (h.keep hbW)
 have ho:=h.olt.2
 have HE:=Lib.hid (pErr_any HH.out)
 have HCV:=Lib.hid hcv
 have HC:=Lib.hid hC
 cases s with
 | bad er =>
   have heb:(er != 0)=true:=by rw [bne_iff_ne];exact PBad.ne h
   obtain ⟨z0,z1,z2,z3,z4,zf⟩:=b5 HZB.out
   obtain ⟨r0,r1,r2,r3,r4,rf⟩:=b5 HRB.out
   have hne:¬ w.heap.size+1=w.heap.size:=by omega
   have hne':¬ w.heap.size=w.heap.size+1:=by omega
   clear h hcv hC hA hR1 hW hbW
   go_enter Tryz.func67,Tryz.ntmps67
   simp only [errOf] at HE
   go_wp2_with fail
   rw [← HW.out]
   refine HE.out.mono ?_
   rintro e' w' ⟨rfl,rfl⟩
   go_wp2_with fail
   obtain ⟨q0,q1,q2,q3,q4,-⟩:=b5 (blk_set5 HRB.out (.int .u8 0) (.int .i64 0) (.string ⟨#[]⟩) (.slice none 0 0) (.slice none 0 0))
   refine bodyPost_ret (v:=zV) (by simp [results,Tryz.results67,go_sem,zV,q0,q1,q2,q3,q4]) rfl ⟨sepNew (bset5 HBW.out (Nat.le_refl _) _ _ _ _ _) (Sep.of_below (Below.refl _ _) _ _),rfl,?_⟩
   have hl:w0.heap.size≤o:=PBad.lo HH.out
   exact PSt.set5 (s:=.bad er) HH.out hw0 (by omega) (by omega) _ _ _ _ _
 | ok A =>
   have HO:Hid (POk Q w0 W o B V x A):=HH.out
   obtain ⟨k0,k1,k2,k3,k4,k5,k6,kf⟩:=b7 HO.out.blk
   have HA:=Lib.hid (hA A rfl)
   have HG:=Lib.hid (Get_any V x.val nm W ((HO.out.val.imp HO.out.sub).imp (pure_keep HO.out.bel)) HO.out.five HO.out.len HO.out.asc HO.out.wt R1 hR1)
   have hol:=BlkAt.lt HO.out.blk
   have hbl:=HO.out.ask.lt
   obtain ⟨xk,xn,xt,xa,xl,xc,xb,xm,xe⟩:=x
   have HN:=Lib.hid hn
   clear h hcv hC hA hR1 hn hW hbW
   go_enter Tryz.func67,Tryz.ntmps67
   simp only [errOf] at HE
   simp only [VC.val] at HG
   go_wp2_with fail
   rw [← HW.out]
   refine HE.out.mono ?_
   rintro e' w' ⟨rfl,rfl⟩
   go_wp2_with fail
   refine HG.out.mono ?_
   rintro e w1 ⟨hb1,hp⟩
   clear HG k0 k1 k2 k3 k4 k5 k6 kf
   cases R1 with
   | none =>
     subst hp
     simp only [zV]
     have hb2:=bel_alloc hb1 (.cells #[.int .u8 0,.int .i64 0,.string ⟨#[]⟩,.slice none 0 0,.slice none 0 0] 29)
     have HF:=Lib.hid (pFail_any (PSt.keep (s:=.ok A) HO.out hb2) 6)
     have HB2:=Lib.hid hb2
     clear hb1 hb2
     go_wp2_with fail
     refine HF.out.mono ?_
     rintro e' w3 ⟨rfl,hs3,hsp⟩
     simp only [failQ] at hs3
     rw [if_neg (by decide)] at hs3
     have HS3:=Lib.hid hs3
     have HSP:=Lib.hid (sepNew HB2.out hsp)
     have HZ3:Hid (BlkAt w3 (w.heap.size+1) 29 #[.int .u8 0,.int .i64 0,.string ⟨#[]⟩,.slice none 0 0,.slice none 0 0]):=(HSP.out.block _ (by omega) (by omega) (fun e=>by have:=Option.some.inj e;omega)).trans HZB.out
     have HR3:Hid (BlkAt w3 w.heap.size 29 #[.int .u8 0,.int .i64 0,.string ⟨#[]⟩,.slice none 0 0,.slice none 0 0]):=(HSP.out.block _ (by omega) (by omega) (fun e=>by have:=Option.some.inj e;omega)).trans HRB.out
     obtain ⟨z0,z1,z2,z3,z4,zf⟩:=b5 HZ3.out
     obtain ⟨r0,r1,r2,r3,r4,rf⟩:=b5 HR3.out
     have hne:¬ w.heap.size+1=w.heap.size:=by omega
     have hne':¬ w.heap.size=w.heap.size+1:=by omega
     clear hs3 hsp
     go_wp2_with fail
     obtain ⟨q0,q1,q2,q3,q4,-⟩:=b5 (blk_set5 HR3.out (.int .u8 0) (.int .i64 0) (.string ⟨#[]⟩) (.slice none 0 0) (.slice none 0 0))
     refine bodyPost_ret (v:=zV) (by simp [results,Tryz.results67,go_sem,zV,q0,q1,q2,q3,q4]) rfl ⟨(sepNew HBW.out HSP.out).set5 (Nat.le_refl _) _ _ _ _ _,rfl,?_⟩
     exact PSt.set5 (s:=.bad 6) HS3.out hw0 (by omega) (by omega) _ _ _ _ _
   | some y =>
     obtain ⟨⟨yk,yn,yt,ya,yl,yc,yb,ym,ye⟩,rfl,hnew⟩:=hp
     simp only [VC.val] at hnew ⊢
     rw [hsW] at hnew
     have hb2:=bel_alloc hb1 (.cells #[.int .u8 yk,.int .i64 yn,.string yt,.slice ya yl yc,.slice yb ym ye] 29)
     have hnew2:NewV (w.heap.size+2) (w1.alloc (.cells #[.int .u8 yk,.int .i64 yn,.string yt,.slice ya yl yc,.slice yb ym ye] 29)) y (VC.val ⟨yk,yn,yt,ya,yl,yc,yb,ym,ye⟩):=ValAt.carry hnew fun k hk1 hk2=>⟨hk2,(bel_alloc (Below.refl _ w1) _).block k hk1⟩
     have hcv:=HCV.out y ⟨yk,yn,yt,ya,yl,yc,yb,ym,ye⟩ _ rfl (below_more HBW.out hb2) hnew2
     simp only [VC.val] at hcv
     have HV:=Lib.hid hcv
     have HB2:=Lib.hid hb2
     clear hb1 hb2 hnew hnew2 hcv HCV
     go_wp2_with (go_at_fn g;refine HV.out.mono ?_)
     rintro e w3 ⟨⟨tk,tn,tt,ta,tl,tc,tb,tm,te⟩,er,rfl,hb3,hct⟩
     simp only
     have hb03:=bel_alloc (below_more HB2.out hb3) (.cells #[.int .u8 tk,.int .i64 tn,.string tt,.slice ta tl tc,.slice tb tm te] 29)
     have HCT:=Lib.hid (HC.out _ _ _ _ _ (Up.of_below (bel_alloc (Below.refl _ w3) (.cells #[.int .u8 tk,.int .i64 tn,.string tt,.slice ta tl tc,.slice tb tm te] 29))) hct)
     have HT4:Hid (BlkAt (w3.alloc (.cells #[.int .u8 tk,.int .i64 tn,.string tt,.slice ta tl tc,.slice tb tm te] 29)) w3.heap.size 29 #[.int .u8 tk,.int .i64 tn,.string tt,.slice ta tl tc,.slice tb tm te]):=blkAt_new w3 _ _
     have HS4:Hid (POk Q w0 (w3.alloc (.cells #[.int .u8 tk,.int .i64 tn,.string tt,.slice ta tl tc,.slice tb tm te] 29)) o B V ⟨xk,xn,xt,xa,xl,xc,xb,xm,xe⟩ A):=PSt.keep (s:=.ok A) HO.out hb03
     have HB3:=Lib.hid hb03
     have h3s:w.heap.size+2≤w3.heap.size:=by
      have h1:=(below_more HB2.out hb3).size
      omega
     clear hb3 hct hb03 HV HB2
     by_cases her:er=0
     ·subst her
      obtain ⟨D,hown,him,hat0⟩:=HS4.out.ask
      have HOW:=Lib.hid hown
      have HIM:=Lib.hid him
      have HAT:=Lib.hid hat0
      obtain ⟨k0,k1,k2,k3,k4,k5,k6,kf⟩:=b7 HS4.out.blk
      clear hown him hat0
      have hcs:=fun (c:Int) (w4:World) (hat:D.atKey (.string nm.data.toList) (.lit (.int .i64 0))=.lit (.int .i64 c)) (hown4:w4.ownsMap Tryz.prog 9 (plainElem Tryz.prog 3) B (A.length+1) (D.put (.string nm.data.toList) (.lit (.int .i64 (wrap64 (c+1))))))=>(by
       have hcn:c=(cntA A nm:Int):=by
        have:=HAT.out nm HN.out
        rw [hat] at this
        injection this with h1
        injection h1
       have hca:=cntA_le A nm
       exact ask_put HN.out HIM.out HAT.out hat (IntWalk.wrap64_in (c+1) (by have:=HA.out;omega)) hown4:AskAt w4 B (A++[nm]))
      have HCS:=Lib.hid hcs
      clear hcs
      go_wp2_with (first
      | (at_lookup;refine wpList_lookup_own_int _ rfl _ _ 104 rfl 9 3 .i64 askLaw Tryz.underlying104 Tryz.underlying3 (zeroInt _) B A.length D rfl HOW.out _ _ rfl (askKey HN.out) ?_;intro c hat hwc)
      | (at_mapUpdate;refine wpList_mapUpdate_own _ rfl _ _ _ 104 rfl 9 3 askLaw Tryz.underlying104 _ B A.length _ rfl HOW.out (by have:=HA.out;unfold maxLen;omega) _ _ _ rfl rfl (askKey HN.out) _ [] (plainElem_int Tryz.underlying3 (wrap64_wf _)) ?_)
      | fail)
      intro w4 hown4 hgrow4
      have hask:=HCS.out c w4 hat hown4
      have hs:=grown_sep hgrow4 o
      have HSP:=Lib.hid (sepNew HB3.out hs)
      have HR4:Hid (BlkAt w4 w.heap.size 29 #[.int .u8 0,.int .i64 0,.string ⟨#[]⟩,.slice none 0 0,.slice none 0 0]):=(HSP.out.block _ (by omega) (by omega) (fun e=>by have:=Option.some.inj e;omega)).trans HRB.out
      have HT5:Hid (BlkAt w4 w3.heap.size 29 #[.int .u8 tk,.int .i64 tn,.string tt,.slice ta tl tc,.slice tb tm te]):=HT4.out.grown hgrow4 (fun e=>by have:=Option.some.inj e;omega)
      have HC5:=Lib.hid (HC.out _ _ _ _ _ (Up.of_sep hs (by omega) (by omega)) HCT.out)
      have HS5:=Lib.hid (POk.put HS4.out hgrow4 hask)
      obtain ⟨t0,t1,t2,t3,t4,tf⟩:=b5 HT5.out
      obtain ⟨r0,r1,r2,r3,r4,rf⟩:=b5 HR4.out
      have hne:¬ w3.heap.size=w.heap.size:=by omega
      have hne':¬ w.heap.size=w3.heap.size:=by omega
      clear hown4 hgrow4 hask hs k0 k1 k2 k3 k4 k5 k6 kf
      go_wp2_with fail
      obtain ⟨q0,q1,q2,q3,q4,-⟩:=b5 (blk_set5 HR4.out (.int .u8 tk) (.int .i64 tn) (.string tt) (.slice ta tl tc) (.slice tb tm te))
      refine bodyPost_ret (v:=VC.val ⟨tk,tn,tt,ta,tl,tc,tb,tm,te⟩) (by simp [results,Tryz.results67,go_sem,VC.val,q0,q1,q2,q3,q4]) rfl ⟨(sepNew HBW.out HSP.out).set5 (Nat.le_refl _) _ _ _ _ _,0,⟨tk,tn,tt,ta,tl,tc,tb,tm,te⟩,HC.out _ _ _ _ _ (Up.set5 (Up.of_below (Below.refl _ _)) (by omega) _ _ _ _ _) HC5.out,Or.inl ⟨rfl,rfl,?_⟩⟩
      exact PSt.set5 (s:=.ok (A++[nm])) HS5.out hw0 (by omega) (by omega) _ _ _ _ _
     ·have heb:(er != 0)=true:=by rw [bne_iff_ne];exact her
      have HF:=Lib.hid (pFail_any (s:=.ok A) HS4.out er)
      have HER:=Lib.hid her
      clear her
      go_wp2_with fail
      refine HF.out.mono ?_
      rintro e' w4 ⟨rfl,hs4,hsp⟩
      simp only [failQ] at hs4
      rw [if_neg HER.out] at hs4
      have HS5:=Lib.hid hs4
      have HSP:=Lib.hid (sepNew HB3.out hsp)
      have HC5:=Lib.hid (HC.out _ _ _ _ _ (Up.of_sep hsp (by omega) (by omega)) HCT.out)
      have HZ3:Hid (BlkAt w4 (w.heap.size+1) 29 #[.int .u8 0,.int .i64 0,.string ⟨#[]⟩,.slice none 0 0,.slice none 0 0]):=(HSP.out.block _ (by omega) (by omega) (fun e=>by have:=Option.some.inj e;omega)).trans HZB.out
      have HR3:Hid (BlkAt w4 w.heap.size 29 #[.int .u8 0,.int .i64 0,.string ⟨#[]⟩,.slice none 0 0,.slice none 0 0]):=(HSP.out.block _ (by omega) (by omega) (fun e=>by have:=Option.some.inj e;omega)).trans HRB.out
      obtain ⟨z0,z1,z2,z3,z4,zf⟩:=b5 HZ3.out
      obtain ⟨r0,r1,r2,r3,r4,rf⟩:=b5 HR3.out
      have hne:¬ w.heap.size+1=w.heap.size:=by omega
      have hne':¬ w.heap.size=w.heap.size+1:=by omega
      clear hs4 hsp
      go_wp2_with fail
      obtain ⟨q0,q1,q2,q3,q4,-⟩:=b5 (blk_set5 HR3.out (.int .u8 0) (.int .i64 0) (.string ⟨#[]⟩) (.slice none 0 0) (.slice none 0 0))
      refine bodyPost_ret (v:=zV) (by simp [results,Tryz.results67,go_sem,zV,q0,q1,q2,q3,q4]) rfl ⟨(sepNew HBW.out HSP.out).set5 (Nat.le_refl _) _ _ _ _ _,er,⟨tk,tn,tt,ta,tl,tc,tb,tm,te⟩,HC.out _ _ _ _ _ (Up.set5 (Up.of_below (Below.refl _ _)) (by omega) _ _ _ _ _) HC5.out,Or.inr ⟨HER.out,rfl,?_⟩⟩
      exact PSt.set5 (s:=.bad er) HS5.out hw0 (by omega) (by omega) _ _ _ _ _
end
end Go.Proofs.YtchinankclckjaaGreatDoor
