/-
  legate/value.endless: values as they are read here do not contain themselves. slices.Clone of strings; value.duplicate, value.Copy. value.Copy.
  pick.BoolOf, NumOf, TextsOf: values that are made.
-/
import Derived.Test.YtchinankclckjaaGreatDoorChartA
import Derived.Test.YtchinankclckjaaGreatDoorSignP
import Derived.LaidEqlPtr
import Derived.Test.YtchinankclckjaaGreatDoorStrsOwn
import Derived.Test.YtchinankclckjaaGreatDoorReadList
import Derived.Test.YtchinankclckjaaGreatDoorValRef3
import Derived.Deep.AppendLies
import Derived.Deep.RegionLaw
import Derived.Deep.RegionHeld3
import Derived.Deep.RegionWith
import Derived.Deep.DeepCutAuto
import Derived.Test.YtchinankclckjaaGreatDoorChartD
namespace Go.Proofs.YtchinankclckjaaGreatDoor
set_option maxHeartbeats 8000000
section
set_option maxRecDepth 100000
section
open Go.RowKit
theorem strs_det {w:World} {v:Value} {l l':List ByteArray} (h:StrsAt w v l) (h':StrsAt w v l'):l=l':=by
 obtain ⟨a,cap,e,-,-,hc⟩:=h.parts
 obtain ⟨a',cap',e',-,-,hc'⟩:=h'.parts
 rw [e] at e'
 simp only [Value.slice.injEq] at e'
 obtain ⟨rfl,hl,rfl⟩:=e'
 refine List.ext_getElem? fun i=>?_
 by_cases hi:i<l.length
 ·obtain ⟨s,hs⟩:∃ s,l[i]?=some s:=⟨_,List.getElem?_eq_getElem hi⟩
  obtain ⟨s',hs'⟩:∃ s,l'[i]?=some s:=⟨_,List.getElem?_eq_getElem (by omega)⟩
  obtain ⟨b,o,ea,c1⟩:=hc i s hs
  obtain ⟨b',o',ea',c2⟩:=hc' i s' hs'
  rw [ea] at ea'
  cases ea'
  rw [c1] at c2
  cases c2
  rw [hs,hs']
 ·rw [List.getElem?_eq_none (by omega),List.getElem?_eq_none (by omega)]
theorem valAt_det {w:World}:∀ (N:Nat) {V W:JV} {v:Value},SizeOf.sizeOf V<N→ValAt w V v→ValAt w W v→V=W
 | 0,_,_,_,h,_,_=>by omega
 | N+1,V,W,v,hN,h,h'=>by
   obtain ⟨vn,vi,rfl,-,-,-,-,-,hn,hi⟩:=valAt_iff.1 h
   obtain ⟨vn',vi',e,-,-,-,-,-,hn',hi'⟩:=valAt_iff.1 h'
   simp only [Value.agg.injEq,Array.mk.injEq,List.cons.injEq,Value.int.injEq,Value.string.injEq,true_and,and_true] at e
   obtain ⟨e1,e2,e3,rfl,rfl⟩:=e
   have hns:=strs_det hn hn'
   have his:V.items=W.items:=by
    obtain ⟨a,cap,e,-,hc⟩:=hi.parts
    obtain ⟨a',cap',e',-,hc'⟩:=hi'.parts
    rw [e] at e'
    simp only [Value.slice.injEq] at e'
    obtain ⟨rfl,hl,rfl⟩:=e'
    refine List.ext_getElem? fun i=>?_
    by_cases hi:i<V.items.length
    ·obtain ⟨x,hx⟩:∃ s,V.items[i]?=some s:=⟨_,List.getElem?_eq_getElem hi⟩
     obtain ⟨y,hy⟩:∃ s,W.items[i]?=some s:=⟨_,List.getElem?_eq_getElem (by omega)⟩
     obtain ⟨b,o,xn,xi,ea,c0,c1,c2,c3,c4,q⟩:=hc i x hx
     obtain ⟨b',o',yn,yi,ea',d0,d1,d2,d3,d4,q'⟩:=hc' i y hy
     rw [ea] at ea'
     cases ea'
     rw [c0] at d0;rw [c1] at d1;rw [c2] at d2;rw [c3] at d3;rw [c4] at d4
     simp only [Option.some.injEq,Value.int.injEq,Value.string.injEq,true_and] at d0 d1 d2 d3 d4
     have hsx:=JV.size_item (List.mem_of_getElem? hx)
     have h2:=valAt_iff.2 ⟨yn,yi,rfl,q'⟩
     rw [← d0,← d1,← d2,← d3,← d4] at h2
     have:=valAt_det N (by omega) (valAt_iff.2 ⟨xn,xi,rfl,q⟩) h2
     rw [hx,hy,this]
    ·rw [List.getElem?_eq_none (by omega),List.getElem?_eq_none (by omega)]
   rw [V.eta,W.eta,e1,e2,e3,hns,his]
def pureW (w:World):World:=hidden (fun _=>false) w
theorem pure_cell {w:World} {p:Addr} {v:Value} (h:(pureW w).cell? p=some v):(∃ cs t,w.heap[p.block]?=some (.cells cs t (0,0)))∧w.cell? p=some v:=((hidden_cell _ w p v).1 h).2
theorem pure_keep {w w':World} (hb:Below w.heap.size w w'):∀ p v,(pureW w).cell? p=some v→(pureW w').cell? p=some v:=fun p v h=>by
 obtain ⟨-,⟨cs,t,hc⟩,h2⟩:=(hidden_cell _ w p v).1 h
 have hk:w'.heap[p.block]?=w.heap[p.block]?:=hb.block _ (cell_lt h2)
 exact (hidden_cell _ w' p v).2 ⟨rfl,⟨cs,t,by rw [hk];exact hc⟩,cell_keep hb h2⟩
theorem ItemsAt.imp {w w':World} (hc:∀ p v,w.cell? p=some v→w'.cell? p=some v) {v:Value} {l:List JV} (h:ItemsAt w v l):ItemsAt w' v l:=by
 obtain ⟨h1,h2⟩:=h
 refine ⟨h1,?_⟩
 rcases h2 with h2 | ⟨b,o,cap,e,hr,hz⟩
 ·exact Or.inl h2
 ·exact Or.inr ⟨b,o,cap,e,hr.imp hc,hz⟩
def Above (w:World) (p:Option Addr) (items:List JV):Prop:=p=none∨∃ b o U c0 c1 c2 c3 c4,p=some ⟨b,o,none⟩∧w.cell? ⟨b,o,none⟩=some c0∧w.cell? ⟨b,o+1,none⟩=some c1∧w.cell? ⟨b,o+2,none⟩=some c2∧w.cell? ⟨b,o+3,none⟩=some c3∧w.cell? ⟨b,o+4,none⟩=some c4∧ValAt w U (.agg #[c0,c1,c2,c3,c4])∧∀ x ∈ items,SizeOf.sizeOf x<SizeOf.sizeOf U
theorem Above.imp {w w':World} (hc:∀ p v,w.cell? p=some v→w'.cell? p=some v) {p:Option Addr} {items:List JV} (h:Above w p items):Above w' p items:=by
 rcases h with h | ⟨b,o,U,c0,c1,c2,c3,c4,h,h0,h1,h2,h3,h4,h5,h6⟩
 ·exact Or.inl h
 ·exact Or.inr ⟨b,o,U,c0,c1,c2,c3,c4,h,hc _ _ h0,hc _ _ h1,hc _ _ h2,hc _ _ h3,hc _ _ h4,h5.imp hc,h6⟩
theorem Above.within {w:World} {p:Option Addr} {items:List JV} {x:JV} (h:Above w p items) (hx:x ∈ items):Above w p x.items:=by
 rcases h with h | ⟨b,o,U,c0,c1,c2,c3,c4,h,h0,h1,h2,h3,h4,h5,h6⟩
 ·exact Or.inl h
 ·exact Or.inr ⟨b,o,U,c0,c1,c2,c3,c4,h,h0,h1,h2,h3,h4,h5,fun y hy=>Nat.lt_trans (JV.size_item hy) (h6 x hx)⟩
theorem infoVal1:(Tryz.prog.info? 29).map (fun i=>i.size)=some 5:=by kernel_rfl
theorem above_no {w w':World} (hb:Below w.heap.size w w') {p:Option Addr} {items:List JV} {x:JV} (h:Above (pureW w) p items) (hx:x ∈ items) {b o:Nat} {c0 c1 c2 c3 c4:Value} (h0:(pureW w).cell? ⟨b,o,none⟩=some c0) (h1:(pureW w).cell? ⟨b,o+1,none⟩=some c1) (h2:(pureW w).cell? ⟨b,o+2,none⟩=some c2) (h3:(pureW w).cell? ⟨b,o+3,none⟩=some c3) (h4:(pureW w).cell? ⟨b,o+4,none⟩=some c4)
 (hv:ValAt (pureW w) x (.agg #[c0,c1,c2,c3,c4])):(binOp .eql 137 (.pointer (some ⟨b,o,none⟩)) (.pointer p)).run Tryz.prog w'=.ok (.bool false) w':=by
 rcases h with rfl | ⟨b',o',U,d0,d1,d2,d3,d4,rfl,g0,g1,g2,g3,g4,g5,g6⟩
 ·exact run_eql_pointer_nil w' _ _ (by kernel_rfl)
 ·obtain ⟨⟨cs,t,e1⟩,-⟩:=pure_cell (pure_keep hb _ _ h0)
  obtain ⟨⟨cs',t',e2⟩,-⟩:=pure_cell (pure_keep hb _ _ g0)
  obtain ⟨i,hi,hs⟩:=Option.map_eq_some_iff.1 infoVal1
  refine run_eql_ptr_other w' Tryz.underlying137 hi (by rw [hs];decide) (fun e=>?_) e1 e2
  cases e
  rw [h0] at g0;rw [h1] at g1;rw [h2] at g2;rw [h3] at g3;rw [h4] at g4
  cases g0;cases g1;cases g2;cases g3;cases g4
  have e3:=valAt_det _ (Nat.lt_succ_self _) hv g5
  have:=g6 x hx
  rw [e3] at this
  omega
theorem endless_any (N:Nat):∀ (items:List JV) (v:Value) (lv:Nat) (p:Option Addr) (w:World),SizeOf.sizeOf items<N→ItemsAt (pureW w) v items→Above (pureW w) p items→1≤lv→lv+countL items≤4000000000000000000 →
 Calls Tryz.prog 64 #[v,.int .i64 lv,.pointer p,.bool false] w fun e w'=>e=.returned (.bool false)∧Below w.heap.size w w':=by
 induction N with
 | zero=>intro items v lv p w h;omega
 | succ N ih =>
   intro items v lv p w hN hI hA hl1 hl2
   have HIH:=Lib.hid ih
   clear ih
   obtain ⟨ai,icap,rfl,hI1,-⟩:=hI.parts
   have HIs:=Lib.hid hI
   have HA:=Lib.hid hA
   obtain ⟨il,e2⟩:∃ x,items.length=x:=⟨_,rfl⟩
   rw [e2] at hI1 HIs ⊢
   have HE2:=Lib.hid e2
   clear hI hA e2
   go_enter Tryz.func64,Tryz.ntmps64
   go_wp2_with fail
   go_loopw [14] (fun i wr=>∃ j:Nat,j≤il∧i=.int .i64 j∧Below w.heap.size w wr) (fun i _=>il - (intOf i).toNat)
   case atStart=>exact ⟨0,by omega,rfl,Below.refl _ _⟩
   case round =>
    obtain ⟨j,hj,rfl,hbr⟩:=hrel
    by_cases hjl:j<il
    ·obtain ⟨x,hx⟩:∃ x,items[j]?=some x:=⟨_,List.getElem?_eq_getElem (by rw [HE2.out];exact hjl)⟩
     obtain ⟨_,_,e',-,hpart⟩:=HIs.out.parts
     rw [HE2.out] at e'
     simp only [Value.slice.injEq] at e'
     obtain ⟨rfl,-,rfl⟩:=e'
     obtain ⟨xb,xo,xn,xi,rfl,x0,x1,x2,x3,x4,q⟩:=hpart j x hx
     obtain ⟨r0,r1,r2,r3,r4,q1,q2⟩:=q
     obtain ⟨xi1,xi2,rfl,-,-⟩:=q2.parts
     have hvx:=valAt_iff.2 ⟨_,_,rfl,⟨r0,r1,r2,r3,r4,q1,q2⟩⟩
     have hcmp:=above_no hbr HA.out (List.mem_of_getElem? hx) x0 x1 x2 x3 x4 hvx
     have y4:=cell_keep hbr (pure_cell x4).2
     have hj0':(0:Int)≤(j:Int):=by omega
     have hj1':(j:Int)<(il:Int):=by omega
     have hs1:=items_lt hx
     have hcm:=countL_mem (List.mem_of_getElem? hx)
     rw [countV_eq] at hcm
     have q3:ItemsAt (pureW wr) (.slice xi1 x.items.length xi2) x.items:=q2.imp (pure_keep hbr)
     have hA1:Above (pureW wr) p x.items:=(HA.out.within (List.mem_of_getElem? hx)).imp (pure_keep hbr)
     have hA2:Above (pureW wr) (some ⟨xb,xo+j*5,none⟩) x.items:=Above.imp (pure_keep hbr) (Or.inr ⟨xb,xo+j*5,x,_,_,_,_,_,rfl,x0,x1,x2,x3,x4,hvx,fun y hy=>JV.size_item hy⟩)
     have H1:=Lib.hid (HIH.out x.items _ (lv+1) _ wr (by omega) q3 hA1 (by omega) (by omega))
     have H2:=Lib.hid (HIH.out x.items _ (lv+1) _ wr (by omega) q3 hA2 (by omega) (by omega))
     rw [show ((lv+1:Nat):Int)=(lv:Int)+1 by omega] at H1 H2
     clear q1 q2 q3 hA1 hA2 hvx hpart
     go_wp2_with fail
     ·refine H2.out.mono ?_
      rintro e w4 ⟨rfl,hb4⟩
      go_wp2_with fail
      refine ⟨⟨j+1,by omega,by go_num,below_more hbr hb4⟩,?_⟩
      simp only [intOf]
      omega
     ·refine H1.out.mono ?_
      rintro e w4 ⟨rfl,hb4⟩
      go_wp2_with fail
      refine ⟨⟨j+1,by omega,by go_num,below_more hbr hb4⟩,?_⟩
      simp only [intOf]
      omega
    ·go_wp2_with fail
     go_ret
     exact ⟨rfl,hbr⟩
end
section
open Go.RowKit
theorem clone_any (l:List ByteArray) (v:Value) (w:World) (h:StrsAt w v l) (hl:l.length≤1000000000) :
 Calls Tryz.prog 58 #[v] w fun e w'=>∃ a c,e=.returned (.slice a l.length c)∧Below w.heap.size w w'∧StrsAt (hidden (offB w.heap.size none) w') (.slice a l.length c) l:=by
 obtain ⟨a,cap,rfl,h1,h2,h3⟩:=h.parts
 obtain ⟨n,hn⟩:∃ n,l.length=n:=⟨_,rfl⟩
 rw [hn] at hl ⊢
 cases a with
 | none =>
   have hq:=Lib.run_eql_slice_nil w 26 9 none n cap 0 0 Tryz.underlying26
   have hl0:l=[]:=by
    match l,h3 with
    | [],_=>rfl
    | s :: r,h3 =>
      obtain ⟨b,o,e,-⟩:=h3 0 s rfl
      exact absurd e (by simp)
   subst hl0
   obtain rfl:n=0:=hn.symm
   go_enter Tryz.func58,Tryz.ntmps58
   go_wp2_with fail
   go_ret
   exact ⟨none,0,rfl,Below.refl _ _,strsAt_nil _⟩
 | some a =>
   have hq:=Lib.run_eql_slice_nil w 26 9 (some a) n cap 0 0 Tryz.underlying26
   obtain ⟨i0,hi,hz0,hz1,hz2⟩:=info_parts infoStr
   have HC:Hid (∀ i s,l[i]?=some s→w.cell? (a.add i)=some (.string s)):=fun i s hs=>by
    obtain ⟨b,o,e,hc⟩:=h3 i s hs
    cases e
    have hadd:(⟨b,o,none⟩:Addr).add i=⟨b,o+i,none⟩:=by unfold Addr.add;split <;> simp_all
    rw [hadd]
    exact hc
   have HM:=Lib.hid h2
   have HN:=Lib.hid hn
   clear h h1 h2 h3 hn
   go_enter Tryz.func58,Tryz.ntmps58
   go_wp2_with (at_builtin;refine wpList_append_own _ rfl _ _ 26 rfl w.heap.size 9 i0 (.string ⟨#[]⟩) 1 16 Tryz.underlying26 hi hz0 hz1 hz2 rfl (by decide) _ _ _ rfl (World.ownsRow_made w #[] 0 (Nat.le_refl _) (Nat.zero_le _) rfl) a n cap (l.map Value.string) rfl ?qc1 ?qc2 ?qc3 ?qc4 ?qc5 ?qc6 ?_)
   case qc1=>rw [List.length_map,HN.out];omega
   case qc2 =>
    intro j u hj
    rw [List.getElem?_map] at hj
    obtain ⟨s,hs,rfl⟩:=Option.map_eq_some_iff.1 hj
    exact Lib.cell?_alloc_some _ (HC.out j s hs)
   case qc3=>intro u hu;obtain ⟨x,_,rfl⟩:=List.mem_map.1 hu;rfl
   case qc4=>unfold maxLen;omega
   case qc5=>omega
   case qc6=>simp
   intro v' w1 hown hgrow hnil
   have hform:∃ g c,v'=.slice (some ⟨g,0,none⟩) n c:=by
    rcases hown.2 with ⟨e,-⟩ | ⟨g,c,cur,e,-⟩
    ·exact absurd e hnil
    ·exact ⟨g,c,e⟩
   obtain ⟨g,c,rfl⟩:=hform
   have hs:StrsAt (hidden (offB w.heap.size none) w1) (.slice (some ⟨g,0,none⟩) n c) l:=by
    have:=hown
    refine strs_own (B1:=w.heap.size) (l:=l) ?_ (Nat.le_refl _) HM.out (by rw [HN.out];omega)
    rw [HN.out]
    exact this
   have HS:=Lib.hid hs
   have hB:Below w.heap.size w w1:=((Below.refl _ w).alloc (Nat.le_refl _) _).grown hgrow (by simp) (by intro k hk;simp [Value.ownBlock] at hk;omega)
   clear hown hgrow hnil hs
   go_wp2_with fail
   go_ret
   exact ⟨some ⟨g,0,none⟩,c,rfl,hB,HS.out⟩
theorem hid_imp {P Q:Nat→Bool} {w w':World} (hk:∀ k,k<w.heap.size→P k=false→Q k=false∧w'.heap[k]?=w.heap[k]?):∀ p v,(hidden P w).cell? p=some v→(hidden Q w').cell? p=some v:=fun p v hu=>by
 obtain ⟨h1,hc,h2⟩:=(hidden_cell P w p v).1 hu
 obtain ⟨h3,h4⟩:=hk p.block (cell_lt h2) h1
 refine (hidden_cell Q w' p v).2 ⟨h3,by rw [h4];exact hc,?_⟩
 rw [← h2]
 unfold World.cell?
 rw [h4]
theorem own_len {w:World} {B j:Nat} {T:TypeId} {v:Value} {xs:List XI} (h:xs.length=j) (ho:w.ownsRow B T 5 v xs.length (xiCells xs)):w.ownsRow B T 5 v j (xiCells xs):=by rw [h] at ho;exact ho
theorem blk_grown {w4 w6:World} {o:Obj} {v:Value} {B j cb:Nat} {T T2:TypeId} {xs:List Value} {cs:Array Value} (ho:w4.ownsRow B T 5 v j xs) (hg:(w4.alloc o).grownBy w6 v.ownBlock) (hb:BlkAt w4 cb T2 cs) (hlt:cb<B):BlkAt w6 cb T2 cs :=
 (hg.block cb (by have:=hb.lt;rw [size_al];omega) (fun e=>by have:=(World.ownsRow.lt ho cb e.symm).1;omega)).trans (hb.alloc o)
theorem len_wtL (l:List JV):l.length≤wtL l:=by
 induction l with
 | nil=>simp
 | cons x r ih=>rw [wtL,List.length_cons,wt_eq];omega
def CopyPost (V:JV) (w:World) (e:Ending) (w':World):Prop:=∃ x:VC,e=.returned x.val∧Below w.heap.size w w'∧NewV w.heap.size w' V x.val
theorem dup_any (N:Nat):∀ (V:JV) (v:Value) (w:World),SizeOf.sizeOf V<N→ValAt w V v→wt V≤1000000000 →
 Calls Tryz.prog 65 #[v] w (CopyPost V w):=by
 induction N with
 | zero=>intro V v w h;omega
 | succ N ih =>
   intro V v w hN hV hwt
   have HIH:=Lib.hid ih
   clear ih
   obtain ⟨vn,vi,rfl,k0,k1,n0,n1,ht,hns,his⟩:=valAt_iff.1 hV
   have HNs:=Lib.hid hns
   have HIs:=Lib.hid his
   obtain ⟨ai,icap,rfl,hI1,-⟩:=his.parts
   obtain ⟨an,ncap,rfl,hN1,-,-⟩:=hns.parts
   obtain ⟨il,e2⟩:∃ x,V.items.length=x:=⟨_,rfl⟩
   obtain ⟨nl,e1⟩:∃ x,V.names.length=x:=⟨_,rfl⟩
   have hwe:=wt_eq V
   have hnl:V.names.length≤1000000000:=by
    have:V.names.length≤wtN V.names:=by
     unfold wtN
     induction V.names with
     | nil=>simp
     | cons x r ih=>rw [List.map_cons,List.sum_cons,List.length_cons];omega
    omega
   have hil:V.items.length≤1000000000:=by have:=len_wtL V.items;omega
   rw [e2] at hI1 HIs hil ⊢
   rw [e1] at hN1 HNs hnl ⊢
   have HE2:=Lib.hid e2
   have HE1:=Lib.hid e1
   have HWT:=Lib.hid hwt
   clear e1 e2 his hns hV hwe hwt
   obtain ⟨w2,hw2⟩:∃ x,x=(w.alloc (.cells #[.int .u8 V.k,.int .i64 V.n,.string V.t,.slice an nl ncap,.slice ai il icap] 29)).alloc (.cells zeroCs 29):=⟨_,rfl⟩
   have hB2:Below w.heap.size w w2:=by rw [hw2];exact bel_alloc (bel_alloc (Below.refl _ _) _) _
   have hs2:w2.heap.size=w.heap.size+2:=by rw [hw2,size_al,size_al]
   have HA:Hid (BlkAt w2 w.heap.size 29 #[.int .u8 V.k,.int .i64 V.n,.string V.t,.slice an nl ncap,.slice ai il icap]):=by rw [hw2];exact (blkAt_new w _ _).alloc _
   have HRb:Hid (BlkAt w2 (w.heap.size+1) 29 zeroCs):=by
    have:=blkAt_new (w.alloc (.cells #[.int .u8 V.k,.int .i64 V.n,.string V.t,.slice an nl ncap,.slice ai il icap] 29)) zeroCs 29
    rw [size_al] at this
    rw [hw2]
    exact this
   have HW:=Lib.hid hw2
   have HNs2:=Lib.hid (HNs.out.keep hB2)
   clear hw2
   obtain ⟨a0,a1,a2,a3,a4,-⟩:=blk5 HA.out
   go_enter Tryz.func65,Tryz.ntmps65
   go_wp2_with fail
   rw [show (w.alloc (.cells #[.int .u8 V.k,.int .i64 V.n,.string V.t,.slice an nl ncap,.slice ai il icap] 29)).alloc (.cells #[.int .u8 0,.int .i64 0,.string ⟨#[]⟩,.slice none 0 0,.slice none 0 0] 29)=w2 from HW.out.symm]
   have HBl:Hid (Below w.heap.size w w2):=hB2
   go_cut [3] (fun p wx=>∃ cb ca cc,p=.pointer (some ⟨cb,0,none⟩)∧Below w2.heap.size w2 wx∧w2.heap.size≤cb∧Hid (BlkAt wx cb 29 #[.int .u8 V.k,.int .i64 V.n,.string V.t,.slice ca nl cc,.slice none 0 0])∧Hid (StrsAt (hidden (offB w2.heap.size (some cb)) wx) (.slice ca nl cc) V.names))
   case first =>
    go_region_held3 (fun w'=>Below w2.heap.size w2 w'∧w'.cell? ⟨w.heap.size,0,none⟩=some (.int .u8 V.k)∧w'.cell? ⟨w.heap.size,1,none⟩=some (.int .i64 V.n)∧w'.cell? ⟨w.heap.size,2,none⟩=some (.string V.t)∧w'.cell? ⟨w.heap.size,3,none⟩=some (.slice an nl ncap))
     ((refine (fun h=>⟨h,cell_keep h a0,cell_keep h a1,cell_keep h a2,cell_keep h a3⟩:Below w2.heap.size w2 _→_) ?_;go_split_ands;(repeat (first | assumption | exact Below.refl _ _ | refine bel_drew ?_ | refine bel_alloc ?_ _ | refine bel_set ?_ (Nat.le_of_eq hs2) _ | refine below_more ?_ (by assumption)))))
     (first
     | (go_at_call 58;refine (clone_any V.names _ _ (HNs2.out.keep (by (repeat (first | assumption | exact Below.refl _ _ | refine bel_drew ?_ | refine bel_alloc ?_ _ | refine below_more ?_ (by assumption))))) (by rw [HE1.out];exact hnl)).mono ?_;rintro e w4 ⟨ca,cc,rfl,hb4,hst⟩;obtain ⟨hc4,hf4⟩:=bcell hb4;have hsz4:=hb4.size;rw [HE1.out] at hst;rw [HE1.out]))
    ·go_wp2_with fail
     go_simp
     go_meet
     case rel =>
      refine ⟨w4.heap.size,ca,cc,rfl,by go_split_ands;assumption,hsz4,blkAt_new w4 _ _,hst.imp (hid_imp fun k hk hP=>⟨offB_no.2 ⟨offB_none.1 hP,fun e=>?_⟩,(bel_alloc (Below.refl _ _) _).block k hk⟩)⟩
      cases e
      omega
    ·go_wp2_with fail
     go_simp
     go_meet
     case rel =>
      have hk4:BlkAt w4 (w.heap.size+2) 29 zeroCs:=by
       have:=BlkAt.keep (w:=(w2.alloc (.cells zeroCs 29)).drew) (blkAt_new w2 zeroCs 29) hb4
       rwa [hs2] at this
      have hs4:w.heap.size+3≤w4.heap.size:=by
       have h1:(w2.alloc (.cells zeroCs 29)).heap.size≤w4.heap.size:=hb4.size
       rw [size_al] at h1
       omega
      refine ⟨w.heap.size+2,ca,cc,rfl,by go_split_ands;assumption,by omega,((((hk4.set 0 _).set 1 _).set 2 _).set 3 _).set 4 _,hst.imp (hid_imp fun k hk hP=>?_)⟩
      have h2:(w2.alloc (.cells zeroCs 29)).heap.size≤k:=offB_none.1 hP
      rw [size_al] at h2
      exact ⟨offB_no.2 ⟨by omega,fun e=>by cases e;omega⟩,heap_set5 _ _ _ _ _ _ _ _ (by omega)⟩
   case rest =>
    obtain ⟨cb,ca,cc,rfl,hbx,hcb,HCB,HST⟩:=hcut
    have hB2x:=below_more hB2 hbx
    have HAx:=Lib.hid (BlkAt.keep HA.out hbx)
    have HRx:=Lib.hid (BlkAt.keep HRb.out hbx)
    obtain ⟨b0,b1,b2,b3,b4,-⟩:=blk5 HAx.out
    have hcl:=HCB.out.lt
    obtain ⟨H0,hH0⟩:∃ h,wc.heap.size=h:=⟨_,rfl⟩
    obtain ⟨i0,hi,hz0,hz1,hz2⟩:=info_parts infoVal
    have HI:=Lib.hid hi
    have HZ0:=Lib.hid hz0
    have HZ1:=Lib.hid hz1
    have HZ2:=Lib.hid hz2
    have hI0:ItemsOwn wc H0 (.slice none 0 0) []:=ItemsOwn.nil _ _
    have HBx:=Lib.hid hB2x
    have HH0:=Lib.hid hH0
    clear a0 a1 a2 a3 a4 hB2 hbx hi hz0 hz1 hz2 HNs HNs2 HW hnl HA HRb
    rw [hH0] at hcl
    go_wp2_with fail
    go_loopg [19] il (fun gk u wr=>∃ (j:Nat) (xs:List XI) (a:Option Addr) (cp:Nat),gk=il - j∧u=.int .i64 j∧j≤il∧xs.length=j∧Hid (xs.map Prod.snd=V.items.take j)∧H0≤wr.heap.size∧Hid (Below w.heap.size w wr)∧Hid (BlkAt wr cb 29 #[.int .u8 V.k,.int .i64 V.n,.string V.t,.slice ca nl cc,.slice a j cp])∧Hid (ItemsOwn wr H0 (.slice a j cp) xs)∧Hid (∀ k,k<H0→k≠cb→wr.heap[k]?=wc.heap[k]?))
    case atStart=>exact ⟨0,[],none,0,rfl,rfl,Nat.zero_le _,rfl,by simp [Hid],by omega,HBx,HCB,hI0,fun k _ _=>rfl⟩
    case round =>
     obtain ⟨j,xs,a,cp,rfl,rfl,hj,hxs,HXS,hsz,HBr,HCr,HIr,HKr⟩:=hrel
     clear hI0 HCB
     by_cases hjl:j<il
     ·obtain ⟨x,hx⟩:∃ x,V.items[j]?=some x:=⟨_,List.getElem?_eq_getElem (by rw [HE2.out];exact hjl)⟩
      obtain ⟨_,_,e',-,hpart⟩:=(HIs.out.keep HBr.out).parts
      rw [HE2.out] at e'
      simp only [Value.slice.injEq] at e'
      obtain ⟨rfl,-,rfl⟩:=e'
      obtain ⟨xb,xo,xn,xi,rfl,x0,x1,x2,x3,x4,q'⟩:=hpart j x hx
      have hvx:=valAt_iff.2 ⟨xn,xi,rfl,q'⟩
      obtain ⟨-,-,-,-,-,q1,q2⟩:=q'
      obtain ⟨xi1,xi2,rfl,-,-⟩:=q2.parts
      obtain ⟨xn1,xn2,rfl,-,-,-⟩:=q1.parts
      have hsx:=JV.size_item (List.mem_of_getElem? hx)
      have hwx:wt x≤1000000000:=by
       have h1:=wtL_mem (List.mem_of_getElem? hx)
       have h2:=wt_eq V
       have h3:=HWT.out
       omega
      have HVX:=Lib.hid hvx
      have HX:=Lib.hid hx
      have hj0':(0:Int)≤(j:Int):=by omega
      have hj1':(j:Int)<(il:Int):=by omega
      clear hpart hx q1 q2 hvx
      go_wp2_with fail
      have HC1:Hid (BlkAt (wr.alloc (.cells #[.int .u8 x.k,.int .i64 x.n,.string x.t,.slice xn1 x.names.length xn2,.slice xi1 x.items.length xi2] 29)) cb 29 #[.int .u8 V.k,.int .i64 V.n,.string V.t,.slice ca nl cc,.slice a j cp]):=HCr.out.alloc _
      have HX1:Hid (BlkAt (wr.alloc (.cells #[.int .u8 x.k,.int .i64 x.n,.string x.t,.slice xn1 x.names.length xn2,.slice xi1 x.items.length xi2] 29)) wr.heap.size 29 #[.int .u8 x.k,.int .i64 x.n,.string x.t,.slice xn1 x.names.length xn2,.slice xi1 x.items.length xi2]):=blkAt_new wr _ _
      have HI1:Hid (ItemsOwn (wr.alloc (.cells #[.int .u8 x.k,.int .i64 x.n,.string x.t,.slice xn1 x.names.length xn2,.slice xi1 x.items.length xi2] 29)) H0 (.slice a j cp) xs):=HIr.out.kept (r:=cb) (by omega) (grown_alloc (World.grownBy.refl _ _) _)
      have HB1:Hid (Below w.heap.size w (wr.alloc (.cells #[.int .u8 x.k,.int .i64 x.n,.string x.t,.slice xn1 x.names.length xn2,.slice xi1 x.items.length xi2] 29))):=bel_alloc HBr.out _
      have HV1:Hid (ValAt (wr.alloc (.cells #[.int .u8 x.k,.int .i64 x.n,.string x.t,.slice xn1 x.names.length xn2,.slice xi1 x.items.length xi2] 29)) x (.agg #[.int .u8 x.k,.int .i64 x.n,.string x.t,.slice xn1 x.names.length xn2,.slice xi1 x.items.length xi2])):=HVX.out.keep (bel_alloc (Below.refl _ _) _)
      have HK1:Hid (∀ k,k<H0→k≠cb→(wr.alloc (.cells #[.int .u8 x.k,.int .i64 x.n,.string x.t,.slice xn1 x.names.length xn2,.slice xi1 x.items.length xi2] 29)).heap[k]?=wc.heap[k]?):=fun k hk hne=>((bel_alloc (Below.refl _ _) _).block k (by omega)).trans (HKr.out k hk hne)
      have hsz1:H0≤(wr.alloc (.cells #[.int .u8 x.k,.int .i64 x.n,.string x.t,.slice xn1 x.names.length xn2,.slice xi1 x.items.length xi2] 29)).heap.size:=by rw [size_al];omega
      generalize wr.alloc (.cells #[.int .u8 x.k,.int .i64 x.n,.string x.t,.slice xn1 x.names.length xn2,.slice xi1 x.items.length xi2] 29)=w1 at HC1 HX1 HI1 HB1 HV1 HK1 hsz1 ⊢
      generalize wr.heap.size=tb at HX1 ⊢
      clear HVX HCr HIr HBr HKr
      have HDUP:=Lib.hid (fun w' (hb:Below w1.heap.size w1 w')=>HIH.out x _ w' (by omega) (HV1.out.keep hb) hwx)
      obtain ⟨q0,q1,q2,q3,q4,qf⟩:=blk5 HC1.out
      obtain ⟨t0,t1,t2,t3,t4,-⟩:=blk5 HX1.out
      go_region_law (first
       | (refine step_append_lies _ (by rfl) _ _ _ (by rfl) H0 29 i0 _ 5 80 Tryz.underlying27 HI.out HZ0.out HZ1.out HZ2.out rfl (by omega) (.slice a j cp) j (xiCells xs) (by rfl) (World.ownsRow.alloc ho4 _) ⟨w4.heap.size,0,none⟩ 1 1 [.int .u8 yk,.int .i64 yn,.string yt,.slice ya yl yc,.slice yb ym ye] (by rfl) (by rfl) (World.news_of_block (cs:=#[.int .u8 yk,.int .i64 yn,.string yt,.slice ya yl yc,.slice yb ym ye]) (t:=29) (fr:=(0,0)) (heap_alloc_new w4 _)) (by intro u hu;simp only [List.mem_cons,List.not_mem_nil,or_false] at hu;rcases hu with rfl | rfl | rfl | rfl | rfl <;> rfl) (by omega) (by unfold maxLen;omega) (by omega) (by rw [size_al];omega) (w4.heap.size+1) (size_al _ _) ?_;intro gg cp' w6 hown6 hgrow hat hlt;have hc6:=blk_grown ho4 hgrow (BlkAt.keep HC1.out hb5) hcl;obtain ⟨r0,r1,r2,r3,r4,rf⟩:=blk5 hc6)
       | (go_simp;go_at_call 65;refine (HDUP.out _ (by (repeat (first | exact Below.refl _ _ | refine bel_drew ?_)))).mono ?_;rintro e w4 ⟨⟨yk,yn,yt,ya,yl,yc,yb,ym,ye⟩,rfl,hb4,hnew4⟩;simp only [VC.val];have hb5:Below w1.heap.size w1 w4:=below_more (by (repeat (first | exact Below.refl _ _ | refine bel_drew ?_))) hb4;obtain ⟨p0,p1,p2,p3,p4,pf⟩:=blk5 (BlkAt.keep HC1.out hb5);obtain ⟨s0,s1,s2,s3,s4,sf⟩:=blk5 ((BlkAt.keep HC1.out hb5).alloc (.cells #[.int .u8 yk,.int .i64 yn,.string yt,.slice ya yl yc,.slice yb ym ye] 29));have hz4:=hb5.size;have ho4:=own_len hxs (HI1.out.kept (r:=cb) (by omega) (grown_of hb5 _)).1))
      all_goals
       have hfz4:H0≤w4.heap.size:=Nat.le_trans hsz1 hz4
       have hne6:∀ k,k<H0→some k≠(Value.slice a j cp).ownBlock:=fun k hk e=>by
        have:=(World.ownsRow.lt ho4 k e.symm).1
        omega
       have hI6:ItemsOwn w6 H0 (.slice (some ⟨gg,0,none⟩) (j+1) cp') (xs++[(⟨yk,yn,yt,ya,yl,yc,yb,ym,ye⟩,x)]) :=
        ItemsOwn.snoc HI1.out hnew4 hsz1 hz4 (hat.elim (fun e=>Or.inl e.symm) (fun e=>Or.inr ⟨gg,rfl,by omega⟩)) (by rw [hxs];exact hown6) (fun k hk _ hne=>(hgrow.block k (by rw [size_al];omega) (fun e=>hne e.symm)).trans ((bel_alloc (Below.refl _ _) _).block k hk)) (fun k hk _=>hb5.block k hk)
       have HI7:=Lib.hid (hI6.set hcl 4 (.slice (some ⟨gg,0,none⟩) (j+1) cp'))
       have hb6:Below w.heap.size w w6:=(bel_alloc (below_more HB1.out hb5) _).grown hgrow (by rw [size_al];have:=HBx.out.size;omega) (fun k hk=>by have:=(World.ownsRow.lt ho4 k hk).1;have:=HBx.out.size;omega)
       have HB7:Hid (Below w.heap.size w (w6.setCell ⟨cb,4,none⟩ (.slice (some ⟨gg,0,none⟩) (j+1) cp'))):=bel_set hb6 (by show w.heap.size≤cb;omega) _
       have HC7:Hid (BlkAt (w6.setCell ⟨cb,4,none⟩ (.slice (some ⟨gg,0,none⟩) (j+1) cp')) cb 29 #[.int .u8 V.k,.int .i64 V.n,.string V.t,.slice ca nl cc,.slice (some ⟨gg,0,none⟩) (j+1) cp']):=hc6.set 4 _
       have HK7:Hid (∀ k,k<H0→k≠cb→(w6.setCell ⟨cb,4,none⟩ (.slice (some ⟨gg,0,none⟩) (j+1) cp')).heap[k]?=wc.heap[k]?):=fun k hk hne =>
        (Below.heap_setCell _ _ _ _ hne).trans ((hgrow.block k (by rw [size_al];omega) (hne6 k hk)).trans (((bel_alloc (Below.refl _ _) _).block k (by omega)).trans ((hb5.block k (by omega)).trans (HK1.out k hk hne))))
       have hs7:H0≤(w6.setCell ⟨cb,4,none⟩ (.slice (some ⟨gg,0,none⟩) (j+1) cp')).heap.size:=by
        show H0≤(w6.heap.modify _ _).size
        rw [Array.size_modify]
        have h1:=hgrow.size
        rw [size_al] at h1
        omega
       have HXS7:Hid ((xs++[((⟨yk,yn,yt,ya,yl,yc,yb,ym,ye⟩:VC),x)]).map Prod.snd=V.items.take (j+1)):=by
        show _=_
        rw [List.map_append,HXS.out,List.take_add_one,HX.out]
        rfl
       have hxs7:(xs++[((⟨yk,yn,yt,ya,yl,yc,yb,ym,ye⟩:VC),x)]).length=j+1:=by rw [List.length_append,hxs];rfl
       clear hown6 hgrow hat hlt hc6 hI6 hb6 ho4 hnew4 hb4 hb5 hne6 q0 q1 q2 q3 q4 qf p0 p1 p2 p3 p4 pf s0 s1 s2 s3 s4 sf r0 r1 r2 r3 r4 rf
       generalize w6.setCell ⟨cb,4,none⟩ (.slice (some ⟨gg,0,none⟩) (j+1) cp')=w7 at HI7 HB7 HC7 HK7 hs7 ⊢
       go_wp2_with fail
       go_roundg (il - (j+1))
       case rel=>exact ⟨j+1,_,_,cp',rfl,by go_num,by omega,hxs7,HXS7,hs7,HB7,HC7,HI7,HK7⟩
       case measure=>omega
     ·have hje:j=il:=by omega
      obtain ⟨c0,c1,c2,c3,c4,-⟩:=blk5 HCr.out
      obtain ⟨z0,z1,z2,z3,z4,zf⟩:=blk5 ((HKr.out (w.heap.size+1) (by omega) (by omega)).trans HRx.out)
      subst hje
      have hNm:StrsAt (hidden (offB w.heap.size none) (((((wr.setCell ⟨w.heap.size+1,0,none⟩ (.int .u8 V.k)).setCell ⟨w.heap.size+1,1,none⟩ (.int .i64 V.n)).setCell ⟨w.heap.size+1,2,none⟩ (.string V.t)).setCell ⟨w.heap.size+1,3,none⟩ (.slice ca nl cc)).setCell ⟨w.heap.size+1,4,none⟩ (.slice a j cp))) (.slice ca nl cc) V.names:=HST.out.imp (hid_imp fun k hk hP=>by
       obtain ⟨h1,h2⟩:=offB_no.1 hP
       exact ⟨offB_none.2 (by omega),(heap_set5 _ _ _ _ _ _ _ _ (by omega)).trans (HKr.out k (by omega) (fun e=>h2 (by rw [e])))⟩)
      have hIt:ItemsAt (hidden (offB w.heap.size none) (((((wr.setCell ⟨w.heap.size+1,0,none⟩ (.int .u8 V.k)).setCell ⟨w.heap.size+1,1,none⟩ (.int .i64 V.n)).setCell ⟨w.heap.size+1,2,none⟩ (.string V.t)).setCell ⟨w.heap.size+1,3,none⟩ (.slice ca nl cc)).setCell ⟨w.heap.size+1,4,none⟩ (.slice a j cp))) (.slice a j cp) V.items:=by
       have h1:=HIr.out.out (by omega)
       rw [HXS.out,List.take_of_length_le (by rw [HE2.out];exact Nat.le_refl _)] at h1
       exact h1.carry fun k hk hP=>⟨offB_none.2 (by have:=offB_none.1 hP;omega),heap_set5 _ _ _ _ _ _ _ _ (by have:=offB_none.1 hP;omega)⟩
      have hNV:NewV w.heap.size (((((wr.setCell ⟨w.heap.size+1,0,none⟩ (.int .u8 V.k)).setCell ⟨w.heap.size+1,1,none⟩ (.int .i64 V.n)).setCell ⟨w.heap.size+1,2,none⟩ (.string V.t)).setCell ⟨w.heap.size+1,3,none⟩ (.slice ca nl cc)).setCell ⟨w.heap.size+1,4,none⟩ (.slice a j cp)) V (.agg #[.int .u8 V.k,.int .i64 V.n,.string V.t,.slice ca nl cc,.slice a j cp]):=valAt_iff.2 ⟨_,_,rfl,k0,k1,n0,n1,ht,hNm,hIt⟩
      have HNV:=Lib.hid hNV
      clear hNm hIt hNV
      go_wp2_with fail
      exact bodyPost_ret (v:=.agg #[.int .u8 V.k,.int .i64 V.n,.string V.t,.slice ca nl cc,.slice a j cp]) (by simp [results,Tryz.results65,go_sem,z0,z1,z2,z3,z4]) rfl ⟨⟨V.k,V.n,V.t,ca,nl,cc,a,j,cp⟩,rfl,bel_set (bel_set (bel_set (bel_set (bel_set HBr.out (Nat.le_succ _) _) (Nat.le_succ _) _) (Nat.le_succ _) _) (Nat.le_succ _) _) (Nat.le_succ _) _,HNV.out⟩
end
section
open Go.RowKit
def zJV:JV:=.mk 0 0 ⟨#[]⟩ [] []
def EqZ (Z:Prop) (x y:JV):Prop:=x=y∨(Z∧x=zJV)
def CutZ (Z:Prop) (l' l:List JV):Prop:=l'.length=l.length∧∀ (i:Nat) (y:JV),l'[i]?=some y→l[i]?=some y∨(Z∧y=zJV)
theorem CutZ.snoc {Z:Prop} {l' l:List JV} {j:Nat} {x y:JV} (h:CutZ Z l' (l.take j)) (hx:l[j]?=some y) (he:EqZ Z x y):CutZ Z (l'++[x]) (l.take (j+1)):=by
 have hj:j<l.length:=(List.getElem?_eq_some_iff.1 hx).1
 obtain ⟨h1,h2⟩:=h
 rw [List.length_take] at h1
 refine ⟨by rw [List.length_append,h1,List.length_take,List.length_singleton];omega,fun i z hz=>?_⟩
 by_cases hi:i<l'.length
 ·rw [List.getElem?_append_left hi] at hz
  rcases h2 i z hz with h3 | h3
  ·left
   rw [List.getElem?_take] at h3 ⊢
   rw [if_pos (by omega)] at h3 ⊢
   exact h3
  ·exact Or.inr h3
 ·rw [List.getElem?_append_right (by omega)] at hz
  have hi0:i - l'.length=0:=by
   have:=(List.getElem?_eq_some_iff.1 hz).1
   simp at this
   omega
  rw [hi0] at hz
  simp only [List.getElem?_cons_zero,Option.some.injEq] at hz
  subst hz
  rcases he with rfl | ⟨hZ,rfl⟩
  ·left
   rw [List.getElem?_take,if_pos (by omega),show i=j from by omega]
   exact hx
  ·exact Or.inr ⟨hZ,rfl⟩
def EndZ (Z:Prop) (e:Ending):Prop:=∃ b,e=.returned (.bool b)∧(b=true→Z)
def CopyZ (Z:Prop) (V:JV) (w:World) (e:Ending) (w':World):Prop:=∃ (x:VC) (l:List JV),e=.returned x.val∧CutZ Z l V.items∧Below w.heap.size w w'∧NewV w.heap.size w' (.mk V.k V.n V.t V.names l) x.val
theorem Copy_gen (Z:Prop) (V:JV) (v:Value) (w:World) (hVp:ValAt w V v) (hend:∀ c0 c1 c2 c3 b o n c,v=.agg #[c0,c1,c2,c3,.slice (some ⟨b,o,none⟩) n c]→∀ (j:Nat) (x:JV) (vi:Value),V.items[j]?=some x→ItemsAt w vi x.items→w.cell? ⟨b,o+j*5+4,none⟩=some vi→∀ W,Below w.heap.size w W→1+countL x.items≤4000000000000000000→Calls Tryz.prog 64 #[vi,.int .i64 1,.pointer none,.bool false] W fun e w'=>EndZ Z e∧Below W.heap.size W w') (hwt:wt V≤1000000000) :
 Calls Tryz.prog 35 #[v] w (CopyZ Z V w):=by
 obtain ⟨vn,vi,rfl,k0,k1,n0,n1,ht,hnsp,hisp⟩:=valAt_iff.1 hVp
 have hns:StrsAt w vn V.names:=hnsp
 have his:ItemsAt w vi V.items:=hisp
 have HPI:=Lib.hid hisp
 have HNs:=Lib.hid hns
 have HIs:=Lib.hid his
 obtain ⟨ai,icap,rfl,hI1,-⟩:=his.parts
 obtain ⟨an,ncap,rfl,hN1,-,-⟩:=hns.parts
 have HEN:=Lib.hid hend
 clear hend
 obtain ⟨il,e2⟩:∃ x,V.items.length=x:=⟨_,rfl⟩
 obtain ⟨nl,e1⟩:∃ x,V.names.length=x:=⟨_,rfl⟩
 have hwe:=wt_eq V
 have hnl:V.names.length≤1000000000:=by
  have:V.names.length≤wtN V.names:=by
   unfold wtN
   induction V.names with
   | nil=>simp
   | cons x r ih=>rw [List.map_cons,List.sum_cons,List.length_cons];omega
  omega
 have hil:V.items.length≤1000000000:=by have:=len_wtL V.items;omega
 rw [e2] at hI1 HIs HPI hil HEN ⊢
 rw [e1] at hN1 HNs hnl HEN ⊢
 have HE2:=Lib.hid e2
 have HE1:=Lib.hid e1
 have HWT:=Lib.hid hwt
 clear e1 e2 his hns hnsp hisp hVp hwe hwt
 obtain ⟨w2,hw2⟩:∃ x,x=(w.alloc (.cells #[.int .u8 V.k,.int .i64 V.n,.string V.t,.slice an nl ncap,.slice ai il icap] 29)).alloc (.cells zeroCs 29):=⟨_,rfl⟩
 have hB2:Below w.heap.size w w2:=by rw [hw2];exact bel_alloc (bel_alloc (Below.refl _ _) _) _
 have hs2:w2.heap.size=w.heap.size+2:=by rw [hw2,size_al,size_al]
 have HA:Hid (BlkAt w2 w.heap.size 29 #[.int .u8 V.k,.int .i64 V.n,.string V.t,.slice an nl ncap,.slice ai il icap]):=by rw [hw2];exact (blkAt_new w _ _).alloc _
 have HRb:Hid (BlkAt w2 (w.heap.size+1) 29 zeroCs):=by
  have:=blkAt_new (w.alloc (.cells #[.int .u8 V.k,.int .i64 V.n,.string V.t,.slice an nl ncap,.slice ai il icap] 29)) zeroCs 29
  rw [size_al] at this
  rw [hw2]
  exact this
 have HW:=Lib.hid hw2
 have HNs2:=Lib.hid (HNs.out.keep hB2)
 clear hw2
 obtain ⟨a0,a1,a2,a3,a4,-⟩:=blk5 HA.out
 go_enter Tryz.func35,Tryz.ntmps35
 go_wp2_with fail
 rw [show (w.alloc (.cells #[.int .u8 V.k,.int .i64 V.n,.string V.t,.slice an nl ncap,.slice ai il icap] 29)).alloc (.cells #[.int .u8 0,.int .i64 0,.string ⟨#[]⟩,.slice none 0 0,.slice none 0 0] 29)=w2 from HW.out.symm]
 have HBl:Hid (Below w.heap.size w w2):=hB2
 go_cut [3] (fun p wx=>∃ cb ca cc,p=.pointer (some ⟨cb,0,none⟩)∧Below w2.heap.size w2 wx∧w2.heap.size≤cb∧Hid (BlkAt wx cb 29 #[.int .u8 V.k,.int .i64 V.n,.string V.t,.slice ca nl cc,.slice none 0 0])∧Hid (StrsAt (hidden (offB w2.heap.size (some cb)) wx) (.slice ca nl cc) V.names))
 case first =>
  go_region_held3 (fun w'=>Below w2.heap.size w2 w'∧w'.cell? ⟨w.heap.size,0,none⟩=some (.int .u8 V.k)∧w'.cell? ⟨w.heap.size,1,none⟩=some (.int .i64 V.n)∧w'.cell? ⟨w.heap.size,2,none⟩=some (.string V.t)∧w'.cell? ⟨w.heap.size,3,none⟩=some (.slice an nl ncap))
   ((refine (fun h=>⟨h,cell_keep h a0,cell_keep h a1,cell_keep h a2,cell_keep h a3⟩:Below w2.heap.size w2 _→_) ?_;go_split_ands;(repeat (first | assumption | exact Below.refl _ _ | refine bel_drew ?_ | refine bel_alloc ?_ _ | refine bel_set ?_ (Nat.le_of_eq hs2) _ | refine below_more ?_ (by assumption)))))
   (first
   | (go_at_call 58;refine (clone_any V.names _ _ (HNs2.out.keep (by (repeat (first | assumption | exact Below.refl _ _ | refine bel_drew ?_ | refine bel_alloc ?_ _ | refine below_more ?_ (by assumption))))) (by rw [HE1.out];exact hnl)).mono ?_;rintro e w4 ⟨ca,cc,rfl,hb4,hst⟩;obtain ⟨hc4,hf4⟩:=bcell hb4;have hsz4:=hb4.size;rw [HE1.out] at hst;rw [HE1.out]))
  ·go_wp2_with fail
   go_simp
   go_meet
   case rel =>
    refine ⟨w4.heap.size,ca,cc,rfl,by go_split_ands;assumption,hsz4,blkAt_new w4 _ _,hst.imp (hid_imp fun k hk hP=>⟨offB_no.2 ⟨offB_none.1 hP,fun e=>?_⟩,(bel_alloc (Below.refl _ _) _).block k hk⟩)⟩
    cases e
    omega
  ·go_wp2_with fail
   go_simp
   go_meet
   case rel =>
    have hk4:BlkAt w4 (w.heap.size+2) 29 zeroCs:=by
     have:=BlkAt.keep (w:=(w2.alloc (.cells zeroCs 29)).drew) (blkAt_new w2 zeroCs 29) hb4
     rwa [hs2] at this
    have hs4:w.heap.size+3≤w4.heap.size:=by
     have h1:(w2.alloc (.cells zeroCs 29)).heap.size≤w4.heap.size:=hb4.size
     rw [size_al] at h1
     omega
    refine ⟨w.heap.size+2,ca,cc,rfl,by go_split_ands;assumption,by omega,((((hk4.set 0 _).set 1 _).set 2 _).set 3 _).set 4 _,hst.imp (hid_imp fun k hk hP=>?_)⟩
    have h2:(w2.alloc (.cells zeroCs 29)).heap.size≤k:=offB_none.1 hP
    rw [size_al] at h2
    exact ⟨offB_no.2 ⟨by omega,fun e=>by cases e;omega⟩,heap_set5 _ _ _ _ _ _ _ _ (by omega)⟩
 case rest =>
  obtain ⟨cb,ca,cc,rfl,hbx,hcb,HCB,HST⟩:=hcut
  have hB2x:=below_more hB2 hbx
  have HAx:=Lib.hid (BlkAt.keep HA.out hbx)
  have HRx:=Lib.hid (BlkAt.keep HRb.out hbx)
  obtain ⟨b0,b1,b2,b3,b4,-⟩:=blk5 HAx.out
  have hcl:=HCB.out.lt
  obtain ⟨H0,hH0⟩:∃ h,wc.heap.size=h:=⟨_,rfl⟩
  obtain ⟨i0,hi,hz0,hz1,hz2⟩:=info_parts infoVal
  have HI:=Lib.hid hi
  have HZ0:=Lib.hid hz0
  have HZ1:=Lib.hid hz1
  have HZ2:=Lib.hid hz2
  have hI0:ItemsOwn wc H0 (.slice none 0 0) []:=ItemsOwn.nil _ _
  have HBx:=Lib.hid hB2x
  have HH0:=Lib.hid hH0
  clear a0 a1 a2 a3 a4 hB2 hbx hi hz0 hz1 hz2 HNs HNs2 HW hnl HA HRb
  rw [hH0] at hcl
  go_wp2_with fail
  go_loopg [19] il (fun gk u wr=>∃ (j:Nat) (xs:List XI) (a:Option Addr) (cp:Nat),gk=il - j∧u=.int .i64 j∧j≤il∧xs.length=j∧Hid (CutZ Z (xs.map Prod.snd) (V.items.take j))∧H0≤wr.heap.size∧Hid (Below w.heap.size w wr)∧Hid (BlkAt wr cb 29 #[.int .u8 V.k,.int .i64 V.n,.string V.t,.slice ca nl cc,.slice a j cp])∧Hid (ItemsOwn wr H0 (.slice a j cp) xs)∧Hid (∀ k,k<H0→k≠cb→wr.heap[k]?=wc.heap[k]?))
  case atStart=>exact ⟨0,[],none,0,rfl,rfl,Nat.zero_le _,rfl,⟨by simp,fun i y h=>by simp at h⟩,by omega,HBx,HCB,hI0,fun k _ _=>rfl⟩
  case round =>
   obtain ⟨j,xs,a,cp,rfl,rfl,hj,hxs,HXS,hsz,HBr,HCr,HIr,HKr⟩:=hrel
   clear hI0 HCB
   by_cases hjl:j<il
   ·obtain ⟨x,hx⟩:∃ x,V.items[j]?=some x:=⟨_,List.getElem?_eq_getElem (by rw [HE2.out];exact hjl)⟩
    obtain ⟨_,_,e',-,hpart⟩:=HPI.out.parts
    rw [HE2.out] at e'
    simp only [Value.slice.injEq] at e'
    obtain ⟨rfl,-,rfl⟩:=e'
    obtain ⟨xb,xo,xn,xi,rfl,x0,x1,x2,x3,x4,q'⟩:=hpart j x hx
    have hvp:=valAt_iff.2 ⟨xn,xi,rfl,q'⟩
    have hvx:=hvp.imp fun p u h=>cell_keep HBr.out h
    have x0:=cell_keep HBr.out x0
    have x1:=cell_keep HBr.out x1
    have x2:=cell_keep HBr.out x2
    have x3:=cell_keep HBr.out x3
    have hx4:=x4
    have x4:=cell_keep HBr.out x4
    obtain ⟨-,-,-,-,-,q1,q2⟩:=q'
    obtain ⟨xi1,xi2,rfl,-,-⟩:=q2.parts
    obtain ⟨xn1,xn2,rfl,-,-,-⟩:=q1.parts
    have hsx:=JV.size_item (List.mem_of_getElem? hx)
    have hwx:wt x≤1000000000:=by
     have h1:=wtL_mem (List.mem_of_getElem? hx)
     have h2:=wt_eq V
     have h3:=HWT.out
     omega
    have HVX:=Lib.hid hvx
    have HX:=Lib.hid hx
    have hj0':(0:Int)≤(j:Int):=by omega
    have hj1':(j:Int)<(il:Int):=by omega
    have HQ2:=Lib.hid q2
    have HX4:=Lib.hid hx4
    have hcx:countV x≤1000000000:=Nat.le_trans (count_wt x) hwx
    rw [countV_eq] at hcx
    clear hpart hx q1 q2 hvx hvp hx4
    go_wp2_with fail
    have HC1:Hid (BlkAt (wr.alloc (.cells #[.int .u8 x.k,.int .i64 x.n,.string x.t,.slice xn1 x.names.length xn2,.slice xi1 x.items.length xi2] 29)) cb 29 #[.int .u8 V.k,.int .i64 V.n,.string V.t,.slice ca nl cc,.slice a j cp]):=HCr.out.alloc _
    have HX1:Hid (BlkAt (wr.alloc (.cells #[.int .u8 x.k,.int .i64 x.n,.string x.t,.slice xn1 x.names.length xn2,.slice xi1 x.items.length xi2] 29)) wr.heap.size 29 #[.int .u8 x.k,.int .i64 x.n,.string x.t,.slice xn1 x.names.length xn2,.slice xi1 x.items.length xi2]):=blkAt_new wr _ _
    have HI1:Hid (ItemsOwn (wr.alloc (.cells #[.int .u8 x.k,.int .i64 x.n,.string x.t,.slice xn1 x.names.length xn2,.slice xi1 x.items.length xi2] 29)) H0 (.slice a j cp) xs):=HIr.out.kept (r:=cb) (by omega) (grown_alloc (World.grownBy.refl _ _) _)
    have HB1:Hid (Below w.heap.size w (wr.alloc (.cells #[.int .u8 x.k,.int .i64 x.n,.string x.t,.slice xn1 x.names.length xn2,.slice xi1 x.items.length xi2] 29))):=bel_alloc HBr.out _
    have HV1:Hid (ValAt (wr.alloc (.cells #[.int .u8 x.k,.int .i64 x.n,.string x.t,.slice xn1 x.names.length xn2,.slice xi1 x.items.length xi2] 29)) x (.agg #[.int .u8 x.k,.int .i64 x.n,.string x.t,.slice xn1 x.names.length xn2,.slice xi1 x.items.length xi2])):=HVX.out.keep (bel_alloc (Below.refl _ _) _)
    have HK1:Hid (∀ k,k<H0→k≠cb→(wr.alloc (.cells #[.int .u8 x.k,.int .i64 x.n,.string x.t,.slice xn1 x.names.length xn2,.slice xi1 x.items.length xi2] 29)).heap[k]?=wc.heap[k]?):=fun k hk hne=>((bel_alloc (Below.refl _ _) _).block k (by omega)).trans (HKr.out k hk hne)
    have hsz1:H0≤(wr.alloc (.cells #[.int .u8 x.k,.int .i64 x.n,.string x.t,.slice xn1 x.names.length xn2,.slice xi1 x.items.length xi2] 29)).heap.size:=by rw [size_al];omega
    have hEnd:=HEN.out _ _ _ _ _ _ _ _ rfl j x _ HX.out HQ2.out HX4.out (wr.alloc (.cells #[.int .u8 x.k,.int .i64 x.n,.string x.t,.slice xn1 x.names.length xn2,.slice xi1 x.items.length xi2] 29)) (bel_alloc HBr.out _) (by omega)
    have HEnd:=Lib.hid hEnd
    have hbw0:Below wr.heap.size wr (wr.alloc (.cells #[.int .u8 x.k,.int .i64 x.n,.string x.t,.slice xn1 x.names.length xn2,.slice xi1 x.items.length xi2] 29)):=bel_alloc (Below.refl _ _) _
    clear hEnd HC1 HI1 HB1 HK1 hsz1
    generalize wr.alloc (.cells #[.int .u8 x.k,.int .i64 x.n,.string x.t,.slice xn1 x.names.length xn2,.slice xi1 x.items.length xi2] 29)=w0' at HX1 HV1 HEnd hbw0 ⊢
    obtain ⟨tb,htb⟩:∃ y,wr.heap.size=y:=⟨_,rfl⟩
    rw [htb] at HX1 ⊢
    have HTB:=Lib.hid htb
    clear htb
    refine HEnd.out.mono ?_
    rintro e w1 ⟨⟨bq,rfl,hz⟩,hbq⟩
    have HZZ:=Lib.hid hz
    clear hz
    have HX1:=Lib.hid (BlkAt.keep HX1.out hbq)
    have HV1:=Lib.hid (HV1.out.keep hbq)
    have HG:=Lib.hid (below_more hbw0 hbq)
    have hct:cb≠tb:=by have h1:=HTB.out;omega
    clear HEnd hbq hbw0 HVX
    cases bq
    case' false =>
     obtain ⟨y,hy⟩:∃ y,x=y:=⟨_,rfl⟩
     have HXY:Hid (V.items[j]?=some y):=by rw [← hy];exact HX.out
     have HE:Hid (EqZ Z x y):=Or.inl hy
     clear hy
     obtain ⟨t0,t1,t2,t3,t4,-⟩:=blk5 HX1.out
     go_wp2_with fail
    case' true =>
     obtain ⟨t0,t1,t2,t3,t4,tf⟩:=blk5 HX1.out
     have HG5:Hid (Below wr.heap.size wr (((((w1.setCell ⟨tb,0,none⟩ (.int .u8 0)).setCell ⟨tb,1,none⟩ (.int .i64 0)).setCell ⟨tb,2,none⟩ (.string ⟨#[]⟩)).setCell ⟨tb,3,none⟩ (.slice none 0 0)).setCell ⟨tb,4,none⟩ (.slice none 0 0))) :=
      bel_set (bel_set (bel_set (bel_set (bel_set HG.out (Nat.le_of_eq HTB.out) _) (Nat.le_of_eq HTB.out) _) (Nat.le_of_eq HTB.out) _) (Nat.le_of_eq HTB.out) _) (Nat.le_of_eq HTB.out) _
     have HX5:=Lib.hid (((((HX1.out.set 0 (.int .u8 0)).set 1 (.int .i64 0)).set 2 (.string ⟨#[]⟩)).set 3 (.slice none 0 0)).set 4 (.slice none 0 0))
     have HXY:Hid (V.items[j]?=some x):=HX.out
     clear HG HX1 HV1
     go_wp2_with fail
     generalize ((((w1.setCell ⟨tb,0,none⟩ (.int .u8 0)).setCell ⟨tb,1,none⟩ (.int .i64 0)).setCell ⟨tb,2,none⟩ (.string ⟨#[]⟩)).setCell ⟨tb,3,none⟩ (.slice none 0 0)).setCell ⟨tb,4,none⟩ (.slice none 0 0)=w1 at HG5 HX5 ⊢
     obtain ⟨y,hy⟩:∃ y,x=y:=⟨_,rfl⟩
     rw [hy] at HXY
     clear hy HX hwx hcx hsx HQ2
     obtain ⟨x,hx0⟩:∃ x,x=zJV:=⟨_,rfl⟩
     obtain ⟨xn1,hq1⟩:∃ z:Option Addr,z=none:=⟨_,rfl⟩
     obtain ⟨xn2,hq2⟩:∃ z:Nat,z=0:=⟨_,rfl⟩
     obtain ⟨xi1,hq3⟩:∃ z:Option Addr,z=none:=⟨_,rfl⟩
     obtain ⟨xi2,hq4⟩:∃ z:Nat,z=0:=⟨_,rfl⟩
     have HG:=HG5
     have HX1:Hid (BlkAt w1 tb 29 #[.int .u8 x.k,.int .i64 x.n,.string x.t,.slice xn1 x.names.length xn2,.slice xi1 x.items.length xi2]):=by rw [hx0,hq1,hq2,hq3,hq4];exact HX5
     have HV1:Hid (ValAt w1 x (.agg #[.int .u8 x.k,.int .i64 x.n,.string x.t,.slice xn1 x.names.length xn2,.slice xi1 x.items.length xi2])):=by rw [hx0,hq1,hq2,hq3,hq4];exact valAt_iff.2 ⟨.slice none 0 0,.slice none 0 0,rfl,by decide,by decide,by decide,by decide,by show (0:Nat)≤maxLen;decide,strsAt_nil _,⟨by decide,Or.inl ⟨rfl,none,0,rfl⟩⟩⟩
     have hwx:wt x≤1000000000:=by rw [hx0];decide
     have HE:Hid (EqZ Z x y):=Or.inr ⟨HZZ.out trivial,hx0⟩
     clear hx0 hq1 hq2 hq3 hq4 HG5 HX5
     obtain ⟨t0,t1,t2,t3,t4,-⟩:=blk5 HX1.out
    all_goals
     have HC1:=Lib.hid (BlkAt.keep HCr.out HG.out)
     have HI1:Hid (ItemsOwn w1 H0 (.slice a j cp) xs):=HIr.out.kept (r:=cb) (by omega) (grown_of HG.out _)
     have HB1:=Lib.hid (below_more HBr.out HG.out)
     have HK1:Hid (∀ k,k<H0→k≠cb→w1.heap[k]?=wc.heap[k]?):=fun k hk hne=>(HG.out.block k (by omega)).trans (HKr.out k hk hne)
     have hsz1:H0≤w1.heap.size:=Nat.le_trans hsz HG.out.size
     have HDUP:=Lib.hid (fun w' (hb:Below w1.heap.size w1 w')=>dup_any _ x _ w' (Nat.lt_succ_self _) (HV1.out.keep hb) hwx)
     obtain ⟨q0,q1,q2,q3,q4,qf⟩:=blk5 HC1.out
     go_region_law (first
      | (refine step_append_lies _ (by rfl) _ _ _ (by rfl) H0 29 i0 _ 5 80 Tryz.underlying27 HI.out HZ0.out HZ1.out HZ2.out rfl (by omega) (.slice a j cp) j (xiCells xs) (by rfl) (World.ownsRow.alloc ho4 _) ⟨w4.heap.size,0,none⟩ 1 1 [.int .u8 yk,.int .i64 yn,.string yt,.slice ya yl yc,.slice yb ym ye] (by rfl) (by rfl) (World.news_of_block (cs:=#[.int .u8 yk,.int .i64 yn,.string yt,.slice ya yl yc,.slice yb ym ye]) (t:=29) (fr:=(0,0)) (heap_alloc_new w4 _)) (by intro u hu;simp only [List.mem_cons,List.not_mem_nil,or_false] at hu;rcases hu with rfl | rfl | rfl | rfl | rfl <;> rfl) (by omega) (by unfold maxLen;omega) (by omega) (by rw [size_al];omega) (w4.heap.size+1) (size_al _ _) ?_;intro gg cp' w6 hown6 hgrow hat hlt;have hc6:=blk_grown ho4 hgrow (BlkAt.keep HC1.out hb5) hcl;obtain ⟨r0,r1,r2,r3,r4,rf⟩:=blk5 hc6)
      | (go_simp;go_at_call 65;refine (HDUP.out _ (by (repeat (first | exact Below.refl _ _ | refine bel_drew ?_)))).mono ?_;rintro e w4 ⟨⟨yk,yn,yt,ya,yl,yc,yb,ym,ye⟩,rfl,hb4,hnew4⟩;simp only [VC.val];have hb5:Below w1.heap.size w1 w4:=below_more (by (repeat (first | exact Below.refl _ _ | refine bel_drew ?_))) hb4;obtain ⟨p0,p1,p2,p3,p4,pf⟩:=blk5 (BlkAt.keep HC1.out hb5);obtain ⟨s0,s1,s2,s3,s4,sf⟩:=blk5 ((BlkAt.keep HC1.out hb5).alloc (.cells #[.int .u8 yk,.int .i64 yn,.string yt,.slice ya yl yc,.slice yb ym ye] 29));have hz4:=hb5.size;have ho4:=own_len hxs (HI1.out.kept (r:=cb) (by omega) (grown_of hb5 _)).1))
     all_goals
      have hfz4:H0≤w4.heap.size:=Nat.le_trans hsz1 hz4
      have hne6:∀ k,k<H0→some k≠(Value.slice a j cp).ownBlock:=fun k hk e=>by
       have:=(World.ownsRow.lt ho4 k e.symm).1
       omega
      have hI6:ItemsOwn w6 H0 (.slice (some ⟨gg,0,none⟩) (j+1) cp') (xs++[(⟨yk,yn,yt,ya,yl,yc,yb,ym,ye⟩,x)]) :=
       ItemsOwn.snoc HI1.out hnew4 hsz1 hz4 (hat.elim (fun e=>Or.inl e.symm) (fun e=>Or.inr ⟨gg,rfl,by omega⟩)) (by rw [hxs];exact hown6) (fun k hk _ hne=>(hgrow.block k (by rw [size_al];omega) (fun e=>hne e.symm)).trans ((bel_alloc (Below.refl _ _) _).block k hk)) (fun k hk _=>hb5.block k hk)
      have HI7:=Lib.hid (hI6.set hcl 4 (.slice (some ⟨gg,0,none⟩) (j+1) cp'))
      have hb6:Below w.heap.size w w6:=(bel_alloc (below_more HB1.out hb5) _).grown hgrow (by rw [size_al];have:=HBx.out.size;omega) (fun k hk=>by have:=(World.ownsRow.lt ho4 k hk).1;have:=HBx.out.size;omega)
      have HB7:Hid (Below w.heap.size w (w6.setCell ⟨cb,4,none⟩ (.slice (some ⟨gg,0,none⟩) (j+1) cp'))):=bel_set hb6 (by show w.heap.size≤cb;omega) _
      have HC7:Hid (BlkAt (w6.setCell ⟨cb,4,none⟩ (.slice (some ⟨gg,0,none⟩) (j+1) cp')) cb 29 #[.int .u8 V.k,.int .i64 V.n,.string V.t,.slice ca nl cc,.slice (some ⟨gg,0,none⟩) (j+1) cp']):=hc6.set 4 _
      have HK7:Hid (∀ k,k<H0→k≠cb→(w6.setCell ⟨cb,4,none⟩ (.slice (some ⟨gg,0,none⟩) (j+1) cp')).heap[k]?=wc.heap[k]?):=fun k hk hne =>
       (Below.heap_setCell _ _ _ _ hne).trans ((hgrow.block k (by rw [size_al];omega) (hne6 k hk)).trans (((bel_alloc (Below.refl _ _) _).block k (by omega)).trans ((hb5.block k (by omega)).trans (HK1.out k hk hne))))
      have hs7:H0≤(w6.setCell ⟨cb,4,none⟩ (.slice (some ⟨gg,0,none⟩) (j+1) cp')).heap.size:=by
       show H0≤(w6.heap.modify _ _).size
       rw [Array.size_modify]
       have h1:=hgrow.size
       rw [size_al] at h1
       omega
      have HXS7:Hid (CutZ Z ((xs++[((⟨yk,yn,yt,ya,yl,yc,yb,ym,ye⟩:VC),x)]).map Prod.snd) (V.items.take (j+1))):=by
       rw [List.map_append]
       exact HXS.out.snoc HXY.out HE.out
      have hxs7:(xs++[((⟨yk,yn,yt,ya,yl,yc,yb,ym,ye⟩:VC),x)]).length=j+1:=by rw [List.length_append,hxs];rfl
      clear hown6 hgrow hat hlt hc6 hI6 hb6 ho4 hnew4 hb4 hb5 hne6 q0 q1 q2 q3 q4 qf p0 p1 p2 p3 p4 pf s0 s1 s2 s3 s4 sf r0 r1 r2 r3 r4 rf
      generalize w6.setCell ⟨cb,4,none⟩ (.slice (some ⟨gg,0,none⟩) (j+1) cp')=w7 at HI7 HB7 HC7 HK7 hs7 ⊢
      go_wp2_with fail
      go_roundg (il - (j+1))
      case rel=>exact ⟨j+1,_,_,cp',rfl,by go_num,by omega,hxs7,HXS7,hs7,HB7,HC7,HI7,HK7⟩
      case measure=>omega
   ·have hje:j=il:=by omega
    obtain ⟨c0,c1,c2,c3,c4,-⟩:=blk5 HCr.out
    obtain ⟨z0,z1,z2,z3,z4,zf⟩:=blk5 ((HKr.out (w.heap.size+1) (by omega) (by omega)).trans HRx.out)
    subst hje
    have hNm:StrsAt (hidden (offB w.heap.size none) (((((wr.setCell ⟨w.heap.size+1,0,none⟩ (.int .u8 V.k)).setCell ⟨w.heap.size+1,1,none⟩ (.int .i64 V.n)).setCell ⟨w.heap.size+1,2,none⟩ (.string V.t)).setCell ⟨w.heap.size+1,3,none⟩ (.slice ca nl cc)).setCell ⟨w.heap.size+1,4,none⟩ (.slice a j cp))) (.slice ca nl cc) V.names:=HST.out.imp (hid_imp fun k hk hP=>by
     obtain ⟨h1,h2⟩:=offB_no.1 hP
     exact ⟨offB_none.2 (by omega),(heap_set5 _ _ _ _ _ _ _ _ (by omega)).trans (HKr.out k (by omega) (fun e=>h2 (by rw [e])))⟩)
    have hIt:ItemsAt (hidden (offB w.heap.size none) (((((wr.setCell ⟨w.heap.size+1,0,none⟩ (.int .u8 V.k)).setCell ⟨w.heap.size+1,1,none⟩ (.int .i64 V.n)).setCell ⟨w.heap.size+1,2,none⟩ (.string V.t)).setCell ⟨w.heap.size+1,3,none⟩ (.slice ca nl cc)).setCell ⟨w.heap.size+1,4,none⟩ (.slice a j cp))) (.slice a j cp) (xs.map Prod.snd):=by
     have h1:=HIr.out.out (by omega)
     exact h1.carry fun k hk hP=>⟨offB_none.2 (by have:=offB_none.1 hP;omega),heap_set5 _ _ _ _ _ _ _ _ (by have:=offB_none.1 hP;omega)⟩
    have hNV:NewV w.heap.size (((((wr.setCell ⟨w.heap.size+1,0,none⟩ (.int .u8 V.k)).setCell ⟨w.heap.size+1,1,none⟩ (.int .i64 V.n)).setCell ⟨w.heap.size+1,2,none⟩ (.string V.t)).setCell ⟨w.heap.size+1,3,none⟩ (.slice ca nl cc)).setCell ⟨w.heap.size+1,4,none⟩ (.slice a j cp)) (.mk V.k V.n V.t V.names (xs.map Prod.snd)) (.agg #[.int .u8 V.k,.int .i64 V.n,.string V.t,.slice ca nl cc,.slice a j cp]):=valAt_iff.2 ⟨_,_,rfl,k0,k1,n0,n1,ht,hNm,hIt⟩
    have HNV:=Lib.hid hNV
    have HCL:Hid (CutZ Z (xs.map Prod.snd) V.items):=by
     have:=HXS.out
     rw [List.take_of_length_le (by rw [HE2.out];exact Nat.le_refl _)] at this
     exact this
    clear hNm hIt hNV
    go_wp2_with fail
    exact bodyPost_ret (v:=.agg #[.int .u8 V.k,.int .i64 V.n,.string V.t,.slice ca nl cc,.slice a j cp]) (by simp [results,Tryz.results35,go_sem,z0,z1,z2,z3,z4]) rfl ⟨⟨V.k,V.n,V.t,ca,nl,cc,a,j,cp⟩,xs.map Prod.snd,rfl,HCL.out,bel_set (bel_set (bel_set (bel_set (bel_set HBr.out (Nat.le_succ _) _) (Nat.le_succ _) _) (Nat.le_succ _) _) (Nat.le_succ _) _) (Nat.le_succ _) _,HNV.out⟩
theorem Copy_any (V:JV) (v:Value) (w:World) (hVp:ValAt (pureW w) V v) (hwt:wt V≤1000000000) :
 Calls Tryz.prog 35 #[v] w (CopyPost V w):=by
 refine (Copy_gen False V v w (hVp.imp fun p u h=>(pure_cell h).2) (fun c0 c1 c2 c3 b o n c e j x vi hx hi hc W hW hn=>?_) hwt).mono fun e w' h=>?_
 ·obtain ⟨vn',vi',e2,-,-,-,-,-,-,hp⟩:=valAt_iff.1 hVp
  rw [e] at e2
  simp only [Value.agg.injEq,Array.mk.injEq,List.cons.injEq,and_true] at e2
  obtain ⟨-,-,-,-,rfl⟩:=e2
  obtain ⟨_,_,e3,-,hpart⟩:=hp.parts
  simp only [Value.slice.injEq] at e3
  obtain ⟨rfl,-,-⟩:=e3
  obtain ⟨b',o',vn2,vi2,e4,-,-,-,-,h4,-,-,-,-,-,-,his⟩:=hpart j x hx
  simp only [Option.some.injEq,Addr.mk.injEq,and_true] at e4
  obtain ⟨rfl,rfl⟩:=e4
  obtain rfl:vi2=vi:=Option.some.inj ((pure_cell h4).2.symm.trans hc)
  have h:=endless_any _ x.items vi2 1 none W (Nat.lt_succ_self _) (his.imp (pure_keep hW)) (Or.inl rfl) (by omega) hn
  rw [show ((1:Nat):Int)=1 from rfl] at h
  exact h.mono fun e w' h=>⟨⟨false,h.1,fun h=>by cases h⟩,h.2⟩
 ·obtain ⟨x,l,h1,hc,hb,hn⟩:=h
  have hl:l=V.items:=by
   refine List.ext_getElem? fun i=>?_
   cases hi:l[i]? with
   | none =>
     rw [List.getElem?_eq_none_iff] at hi
     exact (List.getElem?_eq_none_iff.2 (by rw [← hc.1];exact hi)).symm
   | some y =>
     rcases hc.2 i y hi with e | e
     ·exact e.symm
     ·exact e.1.elim
  rw [hl,← JV.eta V] at hn
  exact ⟨x,h1,hb,hn⟩
end
end

section
set_option maxRecDepth 100000
open Go.RowKit
def textJ (s:ByteArray):JV:=.mk 3 0 s [] []
def boolJ (b:Bool):JV:=.mk 1 (if b=true then 1 else 0) ⟨#[]⟩ [] []
def numJ (n:Int):JV:=.mk 2 n ⟨#[]⟩ [] []
def listJ (l:List JV):JV:=.mk 4 0 ⟨#[]⟩ [] l
def textsJ (l:List ByteArray):JV:=listJ (l.map textJ)
theorem numOf_any (n:Int) (w:World) :
 Calls Tryz.prog 15 #[.int .i64 n] w fun e w'=>e=.returned (.agg #[.int .u8 2,.int .i64 n,.string ⟨#[]⟩,.slice none 0 0,.slice none 0 0])∧Below w.heap.size w w':=by
 have HB:Hid (∀ cs,Below w.heap.size w (w.alloc (.cells cs 29))):=fun cs=>bel_alloc (Below.refl _ _) _
 obtain ⟨q0,q1,q2,q3,q4,-⟩:=b5t (blkAt_newC w #[.int .u8 2,.int .i64 n,.string ⟨#[]⟩,.slice none 0 0,.slice none 0 0] 29)
 go_enter Tryz.func15,Tryz.ntmps15
 go_wp2_with fail
 exact bodyPost_ret (v:=.agg #[.int .u8 2,.int .i64 n,.string ⟨#[]⟩,.slice none 0 0,.slice none 0 0]) (by simp [results,Tryz.results15,go_sem,q0,q1,q2,q3,q4]) rfl ⟨rfl,HB.out _⟩
theorem boolOf_any (b:Bool) (w:World) :
 Calls Tryz.prog 60 #[.bool b] w fun e w'=>e=.returned (.agg #[.int .u8 1,.int .i64 (if b=true then 1 else 0),.string ⟨#[]⟩,.slice none 0 0,.slice none 0 0])∧Below w.heap.size w w':=by
 have HB:Hid (∀ cs,Below w.heap.size w (w.alloc (.cells cs 29))):=fun cs=>bel_alloc (Below.refl _ _) _
 cases b with
 | true =>
   obtain ⟨q0,q1,q2,q3,q4,-⟩:=b5t (blkAt_newC w #[.int .u8 1,.int .i64 1,.string ⟨#[]⟩,.slice none 0 0,.slice none 0 0] 29)
   go_enter Tryz.func60,Tryz.ntmps60
   go_wp2_with fail
   exact bodyPost_ret (v:=.agg #[.int .u8 1,.int .i64 1,.string ⟨#[]⟩,.slice none 0 0,.slice none 0 0]) (by simp [results,Tryz.results60,go_sem,q0,q1,q2,q3,q4]) rfl ⟨rfl,HB.out _⟩
 | false =>
   obtain ⟨q0,q1,q2,q3,q4,-⟩:=b5t (blkAt_newC w #[.int .u8 1,.int .i64 0,.string ⟨#[]⟩,.slice none 0 0,.slice none 0 0] 29)
   go_enter Tryz.func60,Tryz.ntmps60
   go_wp2_with fail
   exact bodyPost_ret (v:=.agg #[.int .u8 1,.int .i64 0,.string ⟨#[]⟩,.slice none 0 0,.slice none 0 0]) (by simp [results,Tryz.results60,go_sem,q0,q1,q2,q3,q4]) rfl ⟨rfl,HB.out _⟩
theorem textJ_at (W:World) (s:ByteArray) (hs:s.size≤maxLen):ValAt W (textJ s) (.agg #[.int .u8 3,.int .i64 0,.string s,.slice none 0 0,.slice none 0 0]):=valAt_leaf W 3 0 s (by decide) (by decide) (by decide) (by decide) hs
theorem textsOf_any (l:List ByteArray) (v:Value) (w:World) (h:StrsAt w v l) (hl9:l.length≤1000000) :
 Calls Tryz.prog 14 #[v] w fun e w'=>∃ x:VC,e=.returned x.val∧Below w.heap.size w w'∧NewV w.heap.size w' (textsJ l) x.val:=by
 obtain ⟨sa,scap,rfl,hl,hm,hc⟩:=h.parts
 obtain ⟨n,hn⟩:∃ n,l.length=n:=⟨_,rfl⟩
 rw [hn] at hl hl9 ⊢
 obtain ⟨i0,hi,hz0,hz1,hz2⟩:=info_parts infoVal
 obtain ⟨W,hW⟩:∃ W,W=(w.alloc (.cells #[.int .u8 0,.int .i64 0,.string ⟨#[]⟩,.slice none 0 0,.slice none 0 0] 29)).alloc (.cells #[.int .u8 4,.int .i64 0,.string ⟨#[]⟩,.slice none 0 0,.slice none 0 0] 29):=⟨_,rfl⟩
 have hBW:Below w.heap.size w W:=by rw [hW];exact bel_alloc (bel_alloc (Below.refl _ _) _) _
 have HRW:Hid (BlkAt W w.heap.size 29 #[.int .u8 0,.int .i64 0,.string ⟨#[]⟩,.slice none 0 0,.slice none 0 0]):=by rw [hW];exact (blkAt_new w _ _).alloc _
 have HMW:Hid (BlkAt W (w.heap.size+1) 29 #[.int .u8 4,.int .i64 0,.string ⟨#[]⟩,.slice none 0 0,.slice none 0 0]):=by
  rw [hW]
  have:=blkAt_new (w.alloc (.cells #[.int .u8 0,.int .i64 0,.string ⟨#[]⟩,.slice none 0 0,.slice none 0 0] 29)) #[.int .u8 4,.int .i64 0,.string ⟨#[]⟩,.slice none 0 0,.slice none 0 0] 29
  rwa [size_al] at this
 have hsW:W.heap.size=w.heap.size+2:=by rw [hW,size_al,size_al]
 obtain ⟨H0,hH0⟩:∃ h,w.heap.size+2=h:=⟨_,rfl⟩
 obtain ⟨mb,hmb⟩:∃ h,w.heap.size+1=h:=⟨_,rfl⟩
 have HBW:=Lib.hid hBW
 have HW:=Lib.hid hW
 have HC:=Lib.hid hc
 have HM:=Lib.hid hm
 have HN:=Lib.hid hn
 have HI:=Lib.hid hi
 have HZ0:=Lib.hid hz0
 have HZ1:=Lib.hid hz1
 have HZ2:=Lib.hid hz2
 have HMB:=Lib.hid hmb
 rw [hmb] at HMW
 have hsW2:H0=W.heap.size:=by omega
 clear h hc hm hn hi hz0 hz1 hz2 hW hBW
 go_enter Tryz.func14,Tryz.ntmps14
 go_wp2_with fail
 rw [← HW.out]
 go_loopw [9] (fun i wr=>∃ (j:Nat) (xs:List XI) (a:Option Addr) (cp:Nat),j≤n∧i=.int .i64 j∧xs.length=j∧Hid (xs.map Prod.snd=(l.take j).map textJ)∧H0≤wr.heap.size∧Hid (Below w.heap.size w wr)∧Hid (BlkAt wr w.heap.size 29 #[.int .u8 0,.int .i64 0,.string ⟨#[]⟩,.slice none 0 0,.slice none 0 0])∧Hid (BlkAt wr mb 29 #[.int .u8 4,.int .i64 0,.string ⟨#[]⟩,.slice none 0 0,.slice a j cp])∧Hid (ItemsOwn wr H0 (.slice a j cp) xs)) (fun i _=>n - (intOf i).toNat)
 case atStart=>exact ⟨0,[],none,0,by omega,rfl,rfl,rfl,by omega,HBW.out,HRW.out,HMW.out,ItemsOwn.nil _ _⟩
 case round =>
  obtain ⟨j,xs,a,cp,hj,rfl,hxs,HXS,hsz,HBr,HRr,HCr,HIr⟩:=hrel
  by_cases hjn:j<n
  ·obtain ⟨s,hs⟩:∃ x,l[j]?=some x:=⟨_,List.getElem?_eq_getElem (by rw [HN.out];exact hjn)⟩
   obtain ⟨xb,xo,rfl,hcs⟩:=HC.out j s hs
   have hcs2:=cell_keep HBr.out hcs
   have hz:=HM.out s (List.mem_of_getElem? hs)
   have hj0':(0:Int)≤(j:Int):=by omega
   have hj1':(j:Int)<(n:Int):=by omega
   have HS:=Lib.hid hs
   have HZ:=Lib.hid hz
   have hcl:mb<H0:=by omega
   have HDUP:=Lib.hid (fun W=>textOf25_any s W)
   obtain ⟨w1,rfl⟩:∃ y,y=wr:=⟨wr,rfl⟩
   obtain ⟨q0,q1,q2,q3,q4,qf⟩:=blk5 HCr.out
   clear hs hcs hz
   go_wp2_with fail
   go_region_law (first
    | (refine step_append_lies _ (by rfl) _ _ _ (by rfl) H0 29 i0 _ 5 80 Tryz.underlying27 HI.out HZ0.out HZ1.out HZ2.out rfl (by omega) (.slice a j cp) j (xiCells xs) (by rfl) (World.ownsRow.alloc ho4 _) ⟨w4.heap.size,0,none⟩ 1 1 [.int .u8 3,.int .i64 0,.string s,.slice none 0 0,.slice none 0 0] (by rfl) (by rfl) (World.news_of_block (cs:=#[.int .u8 3,.int .i64 0,.string s,.slice none 0 0,.slice none 0 0]) (t:=29) (fr:=(0,0)) (heap_alloc_new w4 _)) (by intro u hu;simp only [List.mem_cons,List.not_mem_nil,or_false] at hu;rcases hu with rfl | rfl | rfl | rfl | rfl <;> rfl) (by omega) (by unfold maxLen;omega) (by omega) (by rw [size_al];omega) (w4.heap.size+1) (size_al _ _) ?_;intro gg cp' w6 hown6 hgrow hat hlt;have hc6:=blk_grown ho4 hgrow (BlkAt.keep HCr.out hb5) hcl;obtain ⟨r0,r1,r2,r3,r4,rf⟩:=blk5 hc6)
    | (go_simp;go_at_call 47;refine (HDUP.out _).mono ?_;rintro e w4 ⟨rfl,hb4⟩;have hb5:Below w1.heap.size w1 w4:=below_more (by (repeat (first | exact Below.refl _ _ | refine bel_drew ?_))) hb4;obtain ⟨p0,p1,p2,p3,p4,pf⟩:=blk5 (BlkAt.keep HCr.out hb5);obtain ⟨s0,s1,s2,s3,s4,sf⟩:=blk5 ((BlkAt.keep HCr.out hb5).alloc (.cells #[.int .u8 3,.int .i64 0,.string s,.slice none 0 0,.slice none 0 0] 29));have hz4:=hb5.size;have ho4:=own_len hxs (HIr.out.kept (r:=mb) (by omega) (grown_of hb5 _)).1))
   all_goals
    have hfz4:H0≤w4.heap.size:=Nat.le_trans hsz hz4
    have hne6:∀ k,k<H0→some k≠(Value.slice a j cp).ownBlock:=fun k hk e=>by
     have:=(World.ownsRow.lt ho4 k e.symm).1
     omega
    have hI6:ItemsOwn w6 H0 (.slice (some ⟨gg,0,none⟩) (j+1) cp') (xs++[(⟨3,0,s,none,0,0,none,0,0⟩,textJ s)]) :=
     ItemsOwn.snoc HIr.out (textJ_at _ s HZ.out) hsz hz4 (hat.elim (fun e=>Or.inl e.symm) (fun e=>Or.inr ⟨gg,rfl,by omega⟩)) (by rw [hxs];exact hown6) (fun k hk _ hne=>(hgrow.block k (by rw [size_al];omega) (fun e=>hne e.symm)).trans ((bel_alloc (Below.refl _ _) _).block k hk)) (fun k hk _=>hb5.block k hk)
    have HI7:=Lib.hid (hI6.set hcl 4 (.slice (some ⟨gg,0,none⟩) (j+1) cp'))
    have hb6:Below w.heap.size w w6:=(bel_alloc (below_more HBr.out hb5) _).grown hgrow (by rw [size_al];have:=HBr.out.size;omega) (fun k hk=>by have:=(World.ownsRow.lt ho4 k hk).1;omega)
    have HB7:Hid (Below w.heap.size w (w6.setCell ⟨mb,4,none⟩ (.slice (some ⟨gg,0,none⟩) (j+1) cp'))):=bel_set hb6 (by show w.heap.size≤mb;omega) _
    have HC7:Hid (BlkAt (w6.setCell ⟨mb,4,none⟩ (.slice (some ⟨gg,0,none⟩) (j+1) cp')) mb 29 #[.int .u8 4,.int .i64 0,.string ⟨#[]⟩,.slice none 0 0,.slice (some ⟨gg,0,none⟩) (j+1) cp']):=hc6.set 4 _
    have HR7:Hid (BlkAt (w6.setCell ⟨mb,4,none⟩ (.slice (some ⟨gg,0,none⟩) (j+1) cp')) w.heap.size 29 #[.int .u8 0,.int .i64 0,.string ⟨#[]⟩,.slice none 0 0,.slice none 0 0]):=(blk_grown ho4 hgrow (BlkAt.keep HRr.out hb5) (by omega)).set_far (by omega) 4 _
    have hs7:H0≤(w6.setCell ⟨mb,4,none⟩ (.slice (some ⟨gg,0,none⟩) (j+1) cp')).heap.size:=by
     show H0≤(w6.heap.modify _ _).size
     rw [Array.size_modify]
     have h1:=hgrow.size
     rw [size_al] at h1
     omega
    have HXS7:Hid ((xs++[((⟨3,0,s,none,0,0,none,0,0⟩:VC),textJ s)]).map Prod.snd=(l.take (j+1)).map textJ):=by
     show _=_
     rw [List.map_append,HXS.out,List.take_add_one,HS.out,List.map_append]
     rfl
    have hxs7:(xs++[((⟨3,0,s,none,0,0,none,0,0⟩:VC),textJ s)]).length=j+1:=by rw [List.length_append,hxs];rfl
    clear hown6 hgrow hat hlt hc6 hI6 hb6 ho4 hb4 hb5 hne6 q0 q1 q2 q3 q4 qf p0 p1 p2 p3 p4 pf s0 s1 s2 s3 s4 sf r0 r1 r2 r3 r4 rf HRr HCr HIr HBr
    generalize w6.setCell ⟨mb,4,none⟩ (.slice (some ⟨gg,0,none⟩) (j+1) cp')=w7 at HI7 HB7 HC7 HR7 hs7 ⊢
    go_wp2_with fail
    exact ⟨⟨j+1,_,_,cp',by omega,by go_num,hxs7,HXS7,hs7,HB7,HR7,HC7,HI7⟩,by simp [intOf];omega⟩
  ·obtain rfl:j=n:=by omega
   have hj1:¬ (j:Int)<(j:Int):=by omega
   obtain ⟨c0,c1,c2,c3,c4,cf⟩:=blk5 HCr.out
   obtain ⟨z0,z1,z2,z3,z4,zf⟩:=blk5 HRr.out
   have hIt:ItemsAt (hidden (offB w.heap.size none) (((((wr.setCell ⟨w.heap.size,0,none⟩ (.int .u8 4)).setCell ⟨w.heap.size,1,none⟩ (.int .i64 0)).setCell ⟨w.heap.size,2,none⟩ (.string ⟨#[]⟩)).setCell ⟨w.heap.size,3,none⟩ (.slice none 0 0)).setCell ⟨w.heap.size,4,none⟩ (.slice a j cp))) (.slice a j cp) (l.map textJ):=by
    have h1:=HIr.out.out (by omega)
    rw [HXS.out,List.take_of_length_le (by rw [HN.out];exact Nat.le_refl _)] at h1
    exact h1.carry fun k hk hP=>⟨offB_none.2 (by have:=offB_none.1 hP;omega),heap_set5 _ _ _ _ _ _ _ _ (by have:=offB_none.1 hP;omega)⟩
   have HNV:Hid (NewV w.heap.size (((((wr.setCell ⟨w.heap.size,0,none⟩ (.int .u8 4)).setCell ⟨w.heap.size,1,none⟩ (.int .i64 0)).setCell ⟨w.heap.size,2,none⟩ (.string ⟨#[]⟩)).setCell ⟨w.heap.size,3,none⟩ (.slice none 0 0)).setCell ⟨w.heap.size,4,none⟩ (.slice a j cp)) (textsJ l) (.agg #[.int .u8 4,.int .i64 0,.string ⟨#[]⟩,.slice none 0 0,.slice a j cp])):=valAt_mk (by decide) (by decide) (by decide) (by decide) (by decide) (strsAt_nil _) hIt
   clear hIt HIr HXS HCr HRr
   go_wp2_with fail
   exact bodyPost_ret (v:=.agg #[.int .u8 4,.int .i64 0,.string ⟨#[]⟩,.slice none 0 0,.slice a j cp]) (by simp [results,Tryz.results14,go_sem,z0,z1,z2,z3,z4]) rfl ⟨⟨4,0,⟨#[]⟩,none,0,0,a,j,cp⟩,rfl,bel_set (bel_set (bel_set (bel_set (bel_set HBr.out (Nat.le_refl _) _) (Nat.le_refl _) _) (Nat.le_refl _) _) (Nat.le_refl _) _) (Nat.le_refl _) _,HNV.out⟩
end
end Go.Proofs.YtchinankclckjaaGreatDoor
