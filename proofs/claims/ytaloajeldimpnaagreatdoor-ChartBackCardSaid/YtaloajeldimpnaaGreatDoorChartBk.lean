/-
  value.endless and value.Copy of a value in whatever memory: what they tell where rows may bear the mark of a text's memory.
  pick.Of of a value in whatever memory: a picker of a value of which members may be nothing.
  chart.Of of a value in whatever memory.
  The object of the map that an object is, is that object, plainly.
-/
import Derived.Test.YtaloajeldimpnaaGreatDoorChartV
import Derived.Test.YtaloajeldimpnaaGreatDoorValRead
import Derived.LaidEqlPtr
import Derived.Laws.NewFold
import Derived.Test.YtaloajeldimpnaaGreatDoorChartI
import Derived.Test.YtaloajeldimpnaaGreatDoorChartQ
import Derived.Test.YtaloajeldimpnaaGreatDoorChartVal
namespace Go.Proofs.YtaloajeldimpnaaGreatDoor
section
set_option maxRecDepth 100000
section
variable {P:Program}
theorem stringish_ok {w:World} {a:Addr} {ca:Array Value} {ta:TypeId} {fa:Nat × Nat} (ha:w.heap[a.block]? = some (.cells ca ta fa)):∃ r,(stringish a).run P w = .ok r w:=by
 unfold stringish
 cases h1:w.frozen? a with
 | true => exact ⟨true,by simp [h1]⟩
 | false => exact ⟨w.frozen? ⟨a.block,ca.size,none⟩,by simp [h1,World.shape?,ha]⟩
theorem mayBeOne_ok {w:World} {a b:Addr} {ca cb:Array Value} {ta tb:TypeId} {fa fb:Nat × Nat} (ha:w.heap[a.block]? = some (.cells ca ta fa)) (hb:w.heap[b.block]? = some (.cells cb tb fb)) :
 ∃ r,(mayBeOne a b).run P w = .ok r w:=by
 obtain ⟨r1,h1⟩:=stringish_ok (P:=P) ha
 obtain ⟨r2,h2⟩:=stringish_ok (P:=P) hb
 unfold mayBeOne
 cases r1 <;> cases r2 <;> simp [h1,h2,World.shape?,ha,hb]
theorem sameAddr_some {w:World} {a b:Addr} {ca cb:Array Value} {ta tb:TypeId} {fa fb:Nat × Nat} (ha:w.heap[a.block]? = some (.cells ca ta fa)) (hb:w.heap[b.block]? = some (.cells cb tb fb)) (hf:w.frozen? a = false) :
 ∃ r w2,(sameAddr a b).run P w = .ok r w2 ∧ (w2 = w ∨ w2 = w.drew):=by
 obtain ⟨r,hr⟩:=mayBeOne_ok (P:=P) ha hb
 unfold sameAddr
 by_cases hbl:a.block = b.block
 ·exact ⟨a == b,w,by simp [hbl],Or.inl rfl⟩
 ·cases r with
  | false => exact ⟨false,w,by simp [hbl,hf,noView,viewAt,World.shape?,ha,hb,hr],Or.inl rfl⟩
  | true =>
    have hF:(Question.extern "sameAddr.stringBytes" 2).forced = false:=by decide
    exact ⟨_,w.drew,by simp [hbl,hf,noView,viewAt,World.shape?,ha,hb,hr,hF]; rfl,Or.inr rfl⟩
theorem eql_some {w:World} {tp te:TypeId} {j:TypeInfo} {a b:Addr} {ca cb:Array Value} {ta tb:TypeId} {fa fb:Nat × Nat} (hp:P.underlying tp = some (.pointer te)) (hte:P.info? te = some j) (hsz:j.size ≠ 0)
 (ha:w.heap[a.block]? = some (.cells ca ta fa)) (hb:w.heap[b.block]? = some (.cells cb tb fb)) (hf:w.frozen? a = false) :
 ∃ r w2,(binOp .eql tp (.pointer (some a)) (.pointer (some b))).run P w = .ok (.bool r) w2 ∧ (w2 = w ∨ w2 = w.drew):=by
 obtain ⟨r,w2,h1,h2⟩:=sameAddr_some (P:=P) ha hb hf
 have h:∀ d:Nat,(Op.equalIn (d + 1) tp (.pointer (some a)) (.pointer (some b))).run P w = .ok r w2:=fun d => by
  simp [Op.equalIn,run_underlying hp,sizeOf,typeInfo,hte,hsz,h1]
 refine ⟨r,w2,?_,h2⟩
 simp only [binOp]
 simp [Op.equal,Op.maxDepth,h 9999]
end
open Go.RowKit
theorem cell_blk {w:World} {p:Addr} {v:Value} (h:w.cell? p = some v):∃ cs t fz,w.heap[p.block]? = some (.cells cs t fz):=by
 unfold World.cell? at h
 split at h
 ·next h2 => exact ⟨_,_,_,h2⟩
 ·cases h
def LiveN (w:World):Nat → Value → List JV → Prop
 | 0,_,_ => True
 | N + 1,v,items => ∀ b o n c,v = .slice (some ⟨b,o,none⟩) n c → ∀ (j:Nat) (x:JV),items[j]? = some x → w.frozen? ⟨b,o + j * 5,none⟩ = false ∧ ∀ xi,w.cell? ⟨b,o + j * 5 + 4,none⟩ = some xi → LiveN w N xi x.items
def Live (w:World) (v:Value) (items:List JV):Prop:=∀ N,LiveN w N v items
theorem Live.item {w:World} {b o n c:Nat} {items:List JV} {j:Nat} {x:JV} (h:Live w (.slice (some ⟨b,o,none⟩) n c) items) (hx:items[j]? = some x) :
 w.frozen? ⟨b,o + j * 5,none⟩ = false ∧ ∀ xi,w.cell? ⟨b,o + j * 5 + 4,none⟩ = some xi → Live w xi x.items :=
 ⟨(h 1 b o n c rfl j x hx).1,fun xi hc N => (h (N + 1) b o n c rfl j x hx).2 xi hc⟩
def SomeB (e:Ending):Prop:=∃ b,e = .returned (.bool b)
set_option maxHeartbeats 4000000 in
theorem endless_some (w0:World) (N:Nat):∀ (items:List JV) (v:Value) (lv:Nat) (p:Option Addr) (w:World),SizeOf.sizeOf items < N → ItemsAt w0 v items → Live w0 v items → (p = none ∨ ∃ b o cs t fz,p = some ⟨b,o,none⟩ ∧ w0.heap[b]? = some (.cells cs t fz)) → Below w0.heap.size w0 w → 1 ≤ lv → lv + countL items ≤ 4000000000000000000 →
 Calls Tryz.prog 79 #[v,.int .i64 lv,.pointer p,.bool false] w fun e w' => SomeB e ∧ Below w.heap.size w w':=by
 induction N with
 | zero => intro items v lv p w h; omega
 | succ N ih =>
   intro items v lv p w hN hI hL hA hB0 hl1 hl2
   have HIH:=Lib.hid ih
   clear ih
   obtain ⟨ai,icap,rfl,hI1,-⟩:=hI.parts
   have HIs:=Lib.hid hI
   have HL:=Lib.hid hL
   have HA:=Lib.hid hA
   have HB0:=Lib.hid hB0
   obtain ⟨il,e2⟩:∃ x,items.length = x:=⟨_,rfl⟩
   rw [e2] at hI1 HIs HL ⊢
   have HE2:=Lib.hid e2
   clear hI hL hA e2 hB0
   go_enter Tryz.func79,Tryz.ntmps79
   go_wp2_with fail
   go_loopw [14] (fun i wr => ∃ j:Nat,j ≤ il ∧ i = .int .i64 j ∧ Below w.heap.size w wr) (fun i _ => il - (intOf i).toNat)
   case atStart => exact ⟨0,by omega,rfl,Below.refl _ _⟩
   case round =>
    obtain ⟨j,hj,rfl,hbr⟩:=hrel
    by_cases hjl:j < il
    ·obtain ⟨x,hx⟩:∃ x,items[j]? = some x:=⟨_,List.getElem?_eq_getElem (by rw [HE2.out]; exact hjl)⟩
     obtain ⟨_,_,e',-,hpart⟩:=HIs.out.parts
     rw [HE2.out] at e'
     simp only [Value.slice.injEq] at e'
     obtain ⟨rfl,-,rfl⟩:=e'
     obtain ⟨xb,xo,xn,xi,rfl,x0,x1,x2,x3,x4,q⟩:=hpart j x hx
     obtain ⟨hfr,hlv⟩:=HL.out.item hx
     have hlx:=hlv _ x4
     obtain ⟨r0,r1,r2,r3,r4,q1,q2⟩:=q
     obtain ⟨xi1,xi2,rfl,-,-⟩:=q2.parts
     have hb0r:=below_more HB0.out hbr
     obtain ⟨cs,tt,fz,hbk⟩:=cell_blk x0
     have hlt0:=cell_lt x0
     have hbk':wr.heap[xb]? = some (.cells cs tt fz):=(hb0r.block xb hlt0).trans hbk
     have hfr':wr.frozen? ⟨xb,xo + j * 5,none⟩ = false:=by
      unfold World.frozen? at hfr ⊢
      rw [hbk']
      rw [hbk] at hfr
      exact hfr
     have hcmp:∃ r w2,(binOp .eql 148 (.pointer (some ⟨xb,xo + j * 5,none⟩)) (.pointer p)).run Tryz.prog wr = .ok (.bool r) w2 ∧ Below wr.heap.size wr w2:=by
      rcases HA.out with rfl | ⟨b',o',cs',t',fz',rfl,hb'⟩
      ·exact ⟨false,wr,run_eql_pointer_nil wr _ _ (by kernel_rfl),Below.refl _ _⟩
      ·have hlt':b' < w0.heap.size:=by
        rcases Nat.lt_or_ge b' w0.heap.size with h | h
        ·exact h
        ·rw [Array.getElem?_eq_none h] at hb'; cases hb'
       obtain ⟨i,hi,hs⟩:=Option.map_eq_some_iff.1 infoVal1
       obtain ⟨r,w2,h1,h2⟩:=eql_some (P:=Tryz.prog) (w:=wr) (a:=⟨xb,xo + j * 5,none⟩) (b:=⟨b',o',none⟩) Tryz.underlying148 hi (by rw [hs]; decide) hbk' ((hb0r.block b' hlt').trans hb') hfr'
       refine ⟨r,w2,h1,?_⟩
       rcases h2 with rfl | rfl
       ·exact Below.refl _ _
       ·exact bel_drew (Below.refl _ _)
     obtain ⟨r,w2,hcmp,hb2⟩:=hcmp
     have hbr2:=below_more hbr hb2
     have hb02:=below_more HB0.out hbr2
     have y4:=cell_keep hb02 x4
     have hj0':(0:Int) ≤ (j:Int):=by omega
     have hj1':(j:Int) < (il:Int):=by omega
     have hs1:=items_lt hx
     have hcm:=countL_mem (List.mem_of_getElem? hx)
     rw [countV_eq] at hcm
     have H1:=Lib.hid (HIH.out x.items _ (lv + 1) p w2 (by omega) q2 hlx HA.out hb02 (by omega) (by omega))
     have H2:=Lib.hid (HIH.out x.items _ (lv + 1) (some ⟨xb,xo + j * 5,none⟩) w2 (by omega) q2 hlx (Or.inr ⟨xb,xo + j * 5,cs,tt,fz,rfl,hbk⟩) hb02 (by omega) (by omega))
     rw [show ((lv + 1:Nat):Int) = (lv:Int) + 1 by omega] at H1 H2
     have HBR2:=Lib.hid hbr2
     clear q1 q2 hpart hlx hlv hfr hfr' hbk' hb0r hbr2 hb02 hb2 x0 x1 x2 x3 x4 hbk hx
     cases r with
     | true =>
       go_wp2_with fail
       go_ret
       exact ⟨⟨true,rfl⟩,HBR2.out⟩
     | false =>
       go_wp2_with fail
       ·refine H2.out.mono ?_
        rintro e w4 ⟨⟨bq,rfl⟩,hb4⟩
        have HB4:=Lib.hid (below_more HBR2.out hb4)
        clear hb4
        cases bq with
        | true =>
          go_wp2_with fail
          go_ret
          exact ⟨⟨true,rfl⟩,HB4.out⟩
        | false =>
          go_wp2_with fail
          exact ⟨⟨j + 1,by omega,by go_num,HB4.out⟩,by simp only [intOf]; omega⟩
       ·refine H1.out.mono ?_
        rintro e w4 ⟨⟨bq,rfl⟩,hb4⟩
        have HB4:=Lib.hid (below_more HBR2.out hb4)
        clear hb4
        cases bq with
        | true =>
          go_wp2_with fail
          go_ret
          exact ⟨⟨true,rfl⟩,HB4.out⟩
        | false =>
          go_wp2_with fail
          exact ⟨⟨j + 1,by omega,by go_num,HB4.out⟩,by simp only [intOf]; omega⟩
    ·go_wp2_with fail
     go_ret
     exact ⟨⟨false,rfl⟩,hbr⟩
/-! A value of which items may be nothing. -/
def zJV:JV:=.mk 0 0 ⟨#[]⟩ [] []
def EqOr (x y:JV):Prop:=x = y ∨ x = zJV
def CutL (l' l:List JV):Prop:=l'.length = l.length ∧ ∀ (i:Nat) (y:JV),l'[i]? = some y → l[i]? = some y ∨ y = zJV
theorem CutL.snoc {l' l:List JV} {j:Nat} {x y:JV} (h:CutL l' (l.take j)) (hx:l[j]? = some y) (he:EqOr x y):CutL (l' ++ [x]) (l.take (j + 1)):=by
 have hj:j < l.length:=(List.getElem?_eq_some_iff.1 hx).1
 obtain ⟨h1,h2⟩:=h
 rw [List.length_take] at h1
 refine ⟨by rw [List.length_append,h1,List.length_take,List.length_singleton]; omega,fun i z hz => ?_⟩
 by_cases hi:i < l'.length
 ·rw [List.getElem?_append_left hi] at hz
  rcases h2 i z hz with h3 | h3
  ·left
   rw [List.getElem?_take] at h3 ⊢
   rw [if_pos (by omega)] at h3 ⊢
   exact h3
  ·exact Or.inr h3
 ·rw [List.getElem?_append_right (by omega)] at hz
  have hi0:i - l'.length = 0:=by
   have:=(List.getElem?_eq_some_iff.1 hz).1
   simp at this
   omega
  rw [hi0] at hz
  simp only [List.getElem?_cons_zero,Option.some.injEq] at hz
  subst hz
  rcases he with rfl | rfl
  ·left
   rw [List.getElem?_take,if_pos (by omega),show i = j from by omega]
   exact hx
  ·exact Or.inr rfl
def CopySome (V:JV) (w:World) (e:Ending) (w':World):Prop:=∃ (x:VC) (l:List JV),e = .returned x.val ∧ CutL l V.items ∧ Below w.heap.size w w' ∧ NewV w.heap.size w' (.mk V.k V.n V.t V.names l) x.val
set_option maxHeartbeats 8000000 in
theorem Copy_some (V:JV) (v:Value) (w:World) (hVp:ValAt w V v) (hlive:∀ c0 c1 c2 c3 vi,v = .agg #[c0,c1,c2,c3,vi] → Live w vi V.items) (hwt:wt V ≤ 1000000000) :
 Calls Tryz.prog 54 #[v] w (CopySome V w):=by
 obtain ⟨vn,vi,rfl,k0,k1,n0,n1,ht,hnsp,hisp⟩:=valAt_iff.1 hVp
 have hns:StrsAt w vn V.names:=hnsp
 have his:ItemsAt w vi V.items:=hisp
 have HLV:=Lib.hid (hlive _ _ _ _ _ rfl)
 clear hlive
 have HPI:=Lib.hid hisp
 have HNs:=Lib.hid hns
 have HIs:=Lib.hid his
 obtain ⟨ai,icap,rfl,hI1,-⟩:=his.parts
 obtain ⟨an,ncap,rfl,hN1,-,-⟩:=hns.parts
 obtain ⟨il,e2⟩:∃ x,V.items.length = x:=⟨_,rfl⟩
 obtain ⟨nl,e1⟩:∃ x,V.names.length = x:=⟨_,rfl⟩
 have hwe:=wt_eq V
 have hnl:V.names.length ≤ 1000000000:=by
  have:V.names.length ≤ wtN V.names:=by
   unfold wtN
   induction V.names with
   | nil => simp
   | cons x r ih => rw [List.map_cons,List.sum_cons,List.length_cons]; omega
  omega
 have hil:V.items.length ≤ 1000000000:=by have:=len_wtL V.items; omega
 rw [e2] at hI1 HIs HPI hil ⊢
 rw [e1] at hN1 HNs hnl ⊢
 have HE2:=Lib.hid e2
 have HE1:=Lib.hid e1
 have HWT:=Lib.hid hwt
 clear e1 e2 his hns hnsp hisp hVp hwe hwt
 obtain ⟨w2,hw2⟩:∃ x,x = (w.alloc (.cells #[.int .u8 V.k,.int .i64 V.n,.string V.t,.slice an nl ncap,.slice ai il icap] 29)).alloc (.cells zeroCs 29):=⟨_,rfl⟩
 have hB2:Below w.heap.size w w2:=by rw [hw2]; exact bel_alloc (bel_alloc (Below.refl _ _) _) _
 have hs2:w2.heap.size = w.heap.size + 2:=by rw [hw2,size_al,size_al]
 have HA:Hid (BlkAt w2 w.heap.size 29 #[.int .u8 V.k,.int .i64 V.n,.string V.t,.slice an nl ncap,.slice ai il icap]):=by rw [hw2]; exact (blkAt_new w _ _).alloc _
 have HRb:Hid (BlkAt w2 (w.heap.size + 1) 29 zeroCs):=by
  have:=blkAt_new (w.alloc (.cells #[.int .u8 V.k,.int .i64 V.n,.string V.t,.slice an nl ncap,.slice ai il icap] 29)) zeroCs 29
  rw [size_al] at this
  rw [hw2]
  exact this
 have HW:=Lib.hid hw2
 have HNs2:=Lib.hid (HNs.out.keep hB2)
 clear hw2
 obtain ⟨a0,a1,a2,a3,a4,-⟩:=blk5 HA.out
 go_enter Tryz.func54,Tryz.ntmps54
 go_wp2_with fail
 rw [show (w.alloc (.cells #[.int .u8 V.k,.int .i64 V.n,.string V.t,.slice an nl ncap,.slice ai il icap] 29)).alloc (.cells #[.int .u8 0,.int .i64 0,.string ⟨#[]⟩,.slice none 0 0,.slice none 0 0] 29) = w2 from HW.out.symm]
 have HBl:Hid (Below w.heap.size w w2):=hB2
 go_cut [3] (fun p wx => ∃ cb ca cc,p = .pointer (some ⟨cb,0,none⟩) ∧ Below w2.heap.size w2 wx ∧ w2.heap.size ≤ cb ∧ Hid (BlkAt wx cb 29 #[.int .u8 V.k,.int .i64 V.n,.string V.t,.slice ca nl cc,.slice none 0 0]) ∧ Hid (StrsAt (hidden (offB w2.heap.size (some cb)) wx) (.slice ca nl cc) V.names))
 case first =>
  go_region_held3 (fun w' => Below w2.heap.size w2 w' ∧ w'.cell? ⟨w.heap.size,0,none⟩ = some (.int .u8 V.k) ∧ w'.cell? ⟨w.heap.size,1,none⟩ = some (.int .i64 V.n) ∧ w'.cell? ⟨w.heap.size,2,none⟩ = some (.string V.t) ∧ w'.cell? ⟨w.heap.size,3,none⟩ = some (.slice an nl ncap))
   ((refine (fun h => ⟨h,cell_keep h a0,cell_keep h a1,cell_keep h a2,cell_keep h a3⟩:Below w2.heap.size w2 _ → _) ?_; go_split_ands; (repeat (first | assumption | exact Below.refl _ _ | refine bel_drew ?_ | refine bel_alloc ?_ _ | refine bel_set ?_ (Nat.le_of_eq hs2) _ | refine below_more ?_ (by assumption)))))
   (first
   | (go_at_call 57; refine (clone_any V.names _ _ (HNs2.out.keep (by (repeat (first | assumption | exact Below.refl _ _ | refine bel_drew ?_ | refine bel_alloc ?_ _ | refine below_more ?_ (by assumption))))) (by rw [HE1.out]; exact hnl)).mono ?_; rintro e w4 ⟨ca,cc,rfl,hb4,hst⟩; obtain ⟨hc4,hf4⟩:=bcell hb4; have hsz4:=hb4.size; rw [HE1.out] at hst; rw [HE1.out]))
  ·go_wp2_with fail
   go_simp
   go_meet
   case rel =>
    refine ⟨w4.heap.size,ca,cc,rfl,by go_split_ands; assumption,hsz4,blkAt_new w4 _ _,hst.imp (hid_imp fun k hk hP => ⟨offB_no.2 ⟨offB_none.1 hP,fun e => ?_⟩,(bel_alloc (Below.refl _ _) _).block k hk⟩)⟩
    cases e
    omega
  ·go_wp2_with fail
   go_simp
   go_meet
   case rel =>
    have hk4:BlkAt w4 (w.heap.size + 2) 29 zeroCs:=by
     have:=BlkAt.keep (w:=(w2.alloc (.cells zeroCs 29)).drew) (blkAt_new w2 zeroCs 29) hb4
     rwa [hs2] at this
    have hs4:w.heap.size + 3 ≤ w4.heap.size:=by
     have h1:(w2.alloc (.cells zeroCs 29)).heap.size ≤ w4.heap.size:=hb4.size
     rw [size_al] at h1
     omega
    refine ⟨w.heap.size + 2,ca,cc,rfl,by go_split_ands; assumption,by omega,((((hk4.set 0 _).set 1 _).set 2 _).set 3 _).set 4 _,hst.imp (hid_imp fun k hk hP => ?_)⟩
    have h2:(w2.alloc (.cells zeroCs 29)).heap.size ≤ k:=offB_none.1 hP
    rw [size_al] at h2
    exact ⟨offB_no.2 ⟨by omega,fun e => by cases e; omega⟩,heap_set5 _ _ _ _ _ _ _ _ (by omega)⟩
 case rest =>
  obtain ⟨cb,ca,cc,rfl,hbx,hcb,HCB,HST⟩:=hcut
  have hB2x:=below_more hB2 hbx
  have HAx:=Lib.hid (BlkAt.keep HA.out hbx)
  have HRx:=Lib.hid (BlkAt.keep HRb.out hbx)
  obtain ⟨b0,b1,b2,b3,b4,-⟩:=blk5 HAx.out
  have hcl:=HCB.out.lt
  obtain ⟨H0,hH0⟩:∃ h,wc.heap.size = h:=⟨_,rfl⟩
  obtain ⟨i0,hi,hz0,hz1,hz2⟩:=info_parts infoVal
  have HI:=Lib.hid hi
  have HZ0:=Lib.hid hz0
  have HZ1:=Lib.hid hz1
  have HZ2:=Lib.hid hz2
  have hI0:ItemsOwn wc H0 (.slice none 0 0) []:=ItemsOwn.nil _ _
  have HBx:=Lib.hid hB2x
  have HH0:=Lib.hid hH0
  clear a0 a1 a2 a3 a4 hB2 hbx hi hz0 hz1 hz2 HNs HNs2 HW hnl HA HRb
  rw [hH0] at hcl
  go_wp2_with fail
  go_loopg [19] il (fun gk u wr => ∃ (j:Nat) (xs:List XI) (a:Option Addr) (cp:Nat),gk = il - j ∧ u = .int .i64 j ∧ j ≤ il ∧ xs.length = j ∧ Hid (CutL (xs.map Prod.snd) (V.items.take j)) ∧ H0 ≤ wr.heap.size ∧ Hid (Below w.heap.size w wr) ∧ Hid (BlkAt wr cb 29 #[.int .u8 V.k,.int .i64 V.n,.string V.t,.slice ca nl cc,.slice a j cp]) ∧ Hid (ItemsOwn wr H0 (.slice a j cp) xs) ∧ Hid (∀ k,k < H0 → k ≠ cb → wr.heap[k]? = wc.heap[k]?))
  case atStart => exact ⟨0,[],none,0,rfl,rfl,Nat.zero_le _,rfl,⟨by simp,fun i y h => by simp at h⟩,by omega,HBx,HCB,hI0,fun k _ _ => rfl⟩
  case round =>
   obtain ⟨j,xs,a,cp,rfl,rfl,hj,hxs,HXS,hsz,HBr,HCr,HIr,HKr⟩:=hrel
   clear hI0 HCB
   by_cases hjl:j < il
   ·obtain ⟨x,hx⟩:∃ x,V.items[j]? = some x:=⟨_,List.getElem?_eq_getElem (by rw [HE2.out]; exact hjl)⟩
    obtain ⟨_,_,e',-,hpart⟩:=HPI.out.parts
    rw [HE2.out] at e'
    simp only [Value.slice.injEq] at e'
    obtain ⟨rfl,-,rfl⟩:=e'
    obtain ⟨xb,xo,xn,xi,rfl,x0,x1,x2,x3,x4,q'⟩:=hpart j x hx
    have hvp:=valAt_iff.2 ⟨xn,xi,rfl,q'⟩
    have hvx:=hvp.imp fun p u h => cell_keep HBr.out h
    have x0:=cell_keep HBr.out x0
    have x1:=cell_keep HBr.out x1
    have x2:=cell_keep HBr.out x2
    have x3:=cell_keep HBr.out x3
    have hx4:=x4
    have x4:=cell_keep HBr.out x4
    obtain ⟨-,-,-,-,-,q1,q2⟩:=q'
    obtain ⟨xi1,xi2,rfl,-,-⟩:=q2.parts
    obtain ⟨xn1,xn2,rfl,-,-,-⟩:=q1.parts
    have hsx:=JV.size_item (List.mem_of_getElem? hx)
    have hwx:wt x ≤ 1000000000:=by
     have h1:=wtL_mem (List.mem_of_getElem? hx)
     have h2:=wt_eq V
     have h3:=HWT.out
     omega
    have HVX:=Lib.hid hvx
    have HX:=Lib.hid hx
    have hj0':(0:Int) ≤ (j:Int):=by omega
    have hj1':(j:Int) < (il:Int):=by omega
    have HQ2:=Lib.hid q2
    have HX4:=Lib.hid hx4
    have hcx:countV x ≤ 1000000000:=Nat.le_trans (count_wt x) hwx
    rw [countV_eq] at hcx
    clear hpart hx q1 q2 hvx hvp hx4
    go_wp2_with fail
    have HC1:Hid (BlkAt (wr.alloc (.cells #[.int .u8 x.k,.int .i64 x.n,.string x.t,.slice xn1 x.names.length xn2,.slice xi1 x.items.length xi2] 29)) cb 29 #[.int .u8 V.k,.int .i64 V.n,.string V.t,.slice ca nl cc,.slice a j cp]):=HCr.out.alloc _
    have HX1:Hid (BlkAt (wr.alloc (.cells #[.int .u8 x.k,.int .i64 x.n,.string x.t,.slice xn1 x.names.length xn2,.slice xi1 x.items.length xi2] 29)) wr.heap.size 29 #[.int .u8 x.k,.int .i64 x.n,.string x.t,.slice xn1 x.names.length xn2,.slice xi1 x.items.length xi2]):=blkAt_new wr _ _
    have HI1:Hid (ItemsOwn (wr.alloc (.cells #[.int .u8 x.k,.int .i64 x.n,.string x.t,.slice xn1 x.names.length xn2,.slice xi1 x.items.length xi2] 29)) H0 (.slice a j cp) xs):=HIr.out.kept (r:=cb) (by omega) (grown_alloc (World.grownBy.refl _ _) _)
    have HB1:Hid (Below w.heap.size w (wr.alloc (.cells #[.int .u8 x.k,.int .i64 x.n,.string x.t,.slice xn1 x.names.length xn2,.slice xi1 x.items.length xi2] 29))):=bel_alloc HBr.out _
    have HV1:Hid (ValAt (wr.alloc (.cells #[.int .u8 x.k,.int .i64 x.n,.string x.t,.slice xn1 x.names.length xn2,.slice xi1 x.items.length xi2] 29)) x (.agg #[.int .u8 x.k,.int .i64 x.n,.string x.t,.slice xn1 x.names.length xn2,.slice xi1 x.items.length xi2])):=HVX.out.keep (bel_alloc (Below.refl _ _) _)
    have HK1:Hid (∀ k,k < H0 → k ≠ cb → (wr.alloc (.cells #[.int .u8 x.k,.int .i64 x.n,.string x.t,.slice xn1 x.names.length xn2,.slice xi1 x.items.length xi2] 29)).heap[k]? = wc.heap[k]?):=fun k hk hne => ((bel_alloc (Below.refl _ _) _).block k (by omega)).trans (HKr.out k hk hne)
    have hsz1:H0 ≤ (wr.alloc (.cells #[.int .u8 x.k,.int .i64 x.n,.string x.t,.slice xn1 x.names.length xn2,.slice xi1 x.items.length xi2] 29)).heap.size:=by rw [size_al]; omega
    have hEnd:=endless_some w _ x.items _ 1 none (wr.alloc (.cells #[.int .u8 x.k,.int .i64 x.n,.string x.t,.slice xn1 x.names.length xn2,.slice xi1 x.items.length xi2] 29)) (Nat.lt_succ_self _) HQ2.out ((HLV.out.item HX.out).2 _ HX4.out) (Or.inl rfl) (bel_alloc HBr.out _) (by omega) (by omega)
    rw [show ((1:Nat):Int) = 1 from rfl] at hEnd
    have HEnd:=Lib.hid hEnd
    have hbw0:Below wr.heap.size wr (wr.alloc (.cells #[.int .u8 x.k,.int .i64 x.n,.string x.t,.slice xn1 x.names.length xn2,.slice xi1 x.items.length xi2] 29)):=bel_alloc (Below.refl _ _) _
    clear hEnd HC1 HI1 HB1 HK1 hsz1
    generalize wr.alloc (.cells #[.int .u8 x.k,.int .i64 x.n,.string x.t,.slice xn1 x.names.length xn2,.slice xi1 x.items.length xi2] 29) = w0' at HX1 HV1 HEnd hbw0 ⊢
    obtain ⟨tb,htb⟩:∃ y,wr.heap.size = y:=⟨_,rfl⟩
    rw [htb] at HX1 ⊢
    have HTB:=Lib.hid htb
    clear htb
    refine HEnd.out.mono ?_
    rintro e w1 ⟨⟨bq,rfl⟩,hbq⟩
    have HX1:=Lib.hid (BlkAt.keep HX1.out hbq)
    have HV1:=Lib.hid (HV1.out.keep hbq)
    have HG:=Lib.hid (below_more hbw0 hbq)
    have hct:cb ≠ tb:=by have h1:=HTB.out; omega
    clear HEnd hbq hbw0 HVX
    cases bq
    case' false =>
     obtain ⟨y,hy⟩:∃ y,x = y:=⟨_,rfl⟩
     have HXY:Hid (V.items[j]? = some y):=by rw [← hy]; exact HX.out
     have HE:Hid (EqOr x y):=Or.inl hy
     clear hy
     obtain ⟨t0,t1,t2,t3,t4,-⟩:=blk5 HX1.out
     go_wp2_with fail
    case' true =>
     obtain ⟨t0,t1,t2,t3,t4,tf⟩:=blk5 HX1.out
     have HG5:Hid (Below wr.heap.size wr (((((w1.setCell ⟨tb,0,none⟩ (.int .u8 0)).setCell ⟨tb,1,none⟩ (.int .i64 0)).setCell ⟨tb,2,none⟩ (.string ⟨#[]⟩)).setCell ⟨tb,3,none⟩ (.slice none 0 0)).setCell ⟨tb,4,none⟩ (.slice none 0 0))) :=
      bel_set (bel_set (bel_set (bel_set (bel_set HG.out (Nat.le_of_eq HTB.out) _) (Nat.le_of_eq HTB.out) _) (Nat.le_of_eq HTB.out) _) (Nat.le_of_eq HTB.out) _) (Nat.le_of_eq HTB.out) _
     have HX5:=Lib.hid (((((HX1.out.set 0 (.int .u8 0)).set 1 (.int .i64 0)).set 2 (.string ⟨#[]⟩)).set 3 (.slice none 0 0)).set 4 (.slice none 0 0))
     have HXY:Hid (V.items[j]? = some x):=HX.out
     clear HG HX1 HV1
     go_wp2_with fail
     generalize ((((w1.setCell ⟨tb,0,none⟩ (.int .u8 0)).setCell ⟨tb,1,none⟩ (.int .i64 0)).setCell ⟨tb,2,none⟩ (.string ⟨#[]⟩)).setCell ⟨tb,3,none⟩ (.slice none 0 0)).setCell ⟨tb,4,none⟩ (.slice none 0 0) = w1 at HG5 HX5 ⊢
     obtain ⟨y,hy⟩:∃ y,x = y:=⟨_,rfl⟩
     rw [hy] at HXY
     clear hy HX hwx hcx hsx HQ2
     obtain ⟨x,hx0⟩:∃ x,x = zJV:=⟨_,rfl⟩
     obtain ⟨xn1,hq1⟩:∃ z:Option Addr,z = none:=⟨_,rfl⟩
     obtain ⟨xn2,hq2⟩:∃ z:Nat,z = 0:=⟨_,rfl⟩
     obtain ⟨xi1,hq3⟩:∃ z:Option Addr,z = none:=⟨_,rfl⟩
     obtain ⟨xi2,hq4⟩:∃ z:Nat,z = 0:=⟨_,rfl⟩
     have HG:=HG5
     have HX1:Hid (BlkAt w1 tb 29 #[.int .u8 x.k,.int .i64 x.n,.string x.t,.slice xn1 x.names.length xn2,.slice xi1 x.items.length xi2]):=by rw [hx0,hq1,hq2,hq3,hq4]; exact HX5
     have HV1:Hid (ValAt w1 x (.agg #[.int .u8 x.k,.int .i64 x.n,.string x.t,.slice xn1 x.names.length xn2,.slice xi1 x.items.length xi2])):=by rw [hx0,hq1,hq2,hq3,hq4]; exact valAt_iff.2 ⟨.slice none 0 0,.slice none 0 0,rfl,by decide,by decide,by decide,by decide,by show (0:Nat) ≤ maxLen; decide,strsAt_nil _,⟨by decide,Or.inl ⟨rfl,none,0,rfl⟩⟩⟩
     have hwx:wt x ≤ 1000000000:=by rw [hx0]; decide
     have HE:Hid (EqOr x y):=Or.inr hx0
     clear hx0 hq1 hq2 hq3 hq4 HG5 HX5
     obtain ⟨t0,t1,t2,t3,t4,-⟩:=blk5 HX1.out
    all_goals
     have HC1:=Lib.hid (BlkAt.keep HCr.out HG.out)
     have HI1:Hid (ItemsOwn w1 H0 (.slice a j cp) xs):=HIr.out.kept (r:=cb) (by omega) (grown_of HG.out _)
     have HB1:=Lib.hid (below_more HBr.out HG.out)
     have HK1:Hid (∀ k,k < H0 → k ≠ cb → w1.heap[k]? = wc.heap[k]?):=fun k hk hne => (HG.out.block k (by omega)).trans (HKr.out k hk hne)
     have hsz1:H0 ≤ w1.heap.size:=Nat.le_trans hsz HG.out.size
     have HDUP:=Lib.hid (fun w' (hb:Below w1.heap.size w1 w') => dup_any _ x _ w' (Nat.lt_succ_self _) (HV1.out.keep hb) hwx)
     obtain ⟨q0,q1,q2,q3,q4,qf⟩:=blk5 HC1.out
     go_region_law (first
      | (refine step_append_lies _ (by rfl) _ _ _ (by rfl) H0 29 i0 _ 5 80 Tryz.underlying27 HI.out HZ0.out HZ1.out HZ2.out rfl (by omega) (.slice a j cp) j (xiCells xs) (by rfl) (World.ownsRow.alloc ho4 _) ⟨w4.heap.size,0,none⟩ 1 1 [.int .u8 yk,.int .i64 yn,.string yt,.slice ya yl yc,.slice yb ym ye] (by rfl) (by rfl) (World.news_of_block (cs:=#[.int .u8 yk,.int .i64 yn,.string yt,.slice ya yl yc,.slice yb ym ye]) (t:=29) (fr:=(0,0)) (heap_alloc_new w4 _)) (by intro u hu; simp only [List.mem_cons,List.not_mem_nil,or_false] at hu; rcases hu with rfl | rfl | rfl | rfl | rfl <;> rfl) (by omega) (by unfold maxLen; omega) (by omega) (by rw [size_al]; omega) (w4.heap.size + 1) (size_al _ _) ?_; intro gg cp' w6 hown6 hgrow hat hlt; have hc6:=blk_grown ho4 hgrow (BlkAt.keep HC1.out hb5) hcl; obtain ⟨r0,r1,r2,r3,r4,rf⟩:=blk5 hc6)
      | (go_simp; go_at_call 80; refine (HDUP.out _ (by (repeat (first | exact Below.refl _ _ | refine bel_drew ?_)))).mono ?_; rintro e w4 ⟨⟨yk,yn,yt,ya,yl,yc,yb,ym,ye⟩,rfl,hb4,hnew4⟩; simp only [VC.val]; have hb5:Below w1.heap.size w1 w4:=below_more (by (repeat (first | exact Below.refl _ _ | refine bel_drew ?_))) hb4; obtain ⟨p0,p1,p2,p3,p4,pf⟩:=blk5 (BlkAt.keep HC1.out hb5); obtain ⟨s0,s1,s2,s3,s4,sf⟩:=blk5 ((BlkAt.keep HC1.out hb5).alloc (.cells #[.int .u8 yk,.int .i64 yn,.string yt,.slice ya yl yc,.slice yb ym ye] 29)); have hz4:=hb5.size; have ho4:=own_len hxs (HI1.out.kept (r:=cb) (by omega) (grown_of hb5 _)).1))
     all_goals
      have hfz4:H0 ≤ w4.heap.size:=Nat.le_trans hsz1 hz4
      have hne6:∀ k,k < H0 → some k ≠ (Value.slice a j cp).ownBlock:=fun k hk e => by
       have:=(World.ownsRow.lt ho4 k e.symm).1
       omega
      have hI6:ItemsOwn w6 H0 (.slice (some ⟨gg,0,none⟩) (j + 1) cp') (xs ++ [(⟨yk,yn,yt,ya,yl,yc,yb,ym,ye⟩,x)]) :=
       ItemsOwn.snoc HI1.out hnew4 hsz1 hz4 (hat.elim (fun e => Or.inl e.symm) (fun e => Or.inr ⟨gg,rfl,by omega⟩)) (by rw [hxs]; exact hown6) (fun k hk _ hne => (hgrow.block k (by rw [size_al]; omega) (fun e => hne e.symm)).trans ((bel_alloc (Below.refl _ _) _).block k hk)) (fun k hk _ => hb5.block k hk)
      have HI7:=Lib.hid (hI6.set hcl 4 (.slice (some ⟨gg,0,none⟩) (j + 1) cp'))
      have hb6:Below w.heap.size w w6:=(bel_alloc (below_more HB1.out hb5) _).grown hgrow (by rw [size_al]; have:=HBx.out.size; omega) (fun k hk => by have:=(World.ownsRow.lt ho4 k hk).1; have:=HBx.out.size; omega)
      have HB7:Hid (Below w.heap.size w (w6.setCell ⟨cb,4,none⟩ (.slice (some ⟨gg,0,none⟩) (j + 1) cp'))):=bel_set hb6 (by show w.heap.size ≤ cb; omega) _
      have HC7:Hid (BlkAt (w6.setCell ⟨cb,4,none⟩ (.slice (some ⟨gg,0,none⟩) (j + 1) cp')) cb 29 #[.int .u8 V.k,.int .i64 V.n,.string V.t,.slice ca nl cc,.slice (some ⟨gg,0,none⟩) (j + 1) cp']):=hc6.set 4 _
      have HK7:Hid (∀ k,k < H0 → k ≠ cb → (w6.setCell ⟨cb,4,none⟩ (.slice (some ⟨gg,0,none⟩) (j + 1) cp')).heap[k]? = wc.heap[k]?):=fun k hk hne =>
       (Below.heap_setCell _ _ _ _ hne).trans ((hgrow.block k (by rw [size_al]; omega) (hne6 k hk)).trans (((bel_alloc (Below.refl _ _) _).block k (by omega)).trans ((hb5.block k (by omega)).trans (HK1.out k hk hne))))
      have hs7:H0 ≤ (w6.setCell ⟨cb,4,none⟩ (.slice (some ⟨gg,0,none⟩) (j + 1) cp')).heap.size:=by
       show H0 ≤ (w6.heap.modify _ _).size
       rw [Array.size_modify]
       have h1:=hgrow.size
       rw [size_al] at h1
       omega
      have HXS7:Hid (CutL ((xs ++ [((⟨yk,yn,yt,ya,yl,yc,yb,ym,ye⟩:VC),x)]).map Prod.snd) (V.items.take (j + 1))):=by
       rw [List.map_append]
       exact HXS.out.snoc HXY.out HE.out
      have hxs7:(xs ++ [((⟨yk,yn,yt,ya,yl,yc,yb,ym,ye⟩:VC),x)]).length = j + 1:=by rw [List.length_append,hxs]; rfl
      clear hown6 hgrow hat hlt hc6 hI6 hb6 ho4 hnew4 hb4 hb5 hne6 q0 q1 q2 q3 q4 qf p0 p1 p2 p3 p4 pf s0 s1 s2 s3 s4 sf r0 r1 r2 r3 r4 rf
      generalize w6.setCell ⟨cb,4,none⟩ (.slice (some ⟨gg,0,none⟩) (j + 1) cp') = w7 at HI7 HB7 HC7 HK7 hs7 ⊢
      go_wp2_with fail
      go_roundg (il - (j + 1))
      case rel => exact ⟨j + 1,_,_,cp',rfl,by go_num,by omega,hxs7,HXS7,hs7,HB7,HC7,HI7,HK7⟩
      case measure => omega
   ·have hje:j = il:=by omega
    obtain ⟨c0,c1,c2,c3,c4,-⟩:=blk5 HCr.out
    obtain ⟨z0,z1,z2,z3,z4,zf⟩:=blk5 ((HKr.out (w.heap.size + 1) (by omega) (by omega)).trans HRx.out)
    subst hje
    have hNm:StrsAt (hidden (offB w.heap.size none) (((((wr.setCell ⟨w.heap.size + 1,0,none⟩ (.int .u8 V.k)).setCell ⟨w.heap.size + 1,1,none⟩ (.int .i64 V.n)).setCell ⟨w.heap.size + 1,2,none⟩ (.string V.t)).setCell ⟨w.heap.size + 1,3,none⟩ (.slice ca nl cc)).setCell ⟨w.heap.size + 1,4,none⟩ (.slice a j cp))) (.slice ca nl cc) V.names:=HST.out.imp (hid_imp fun k hk hP => by
     obtain ⟨h1,h2⟩:=offB_no.1 hP
     exact ⟨offB_none.2 (by omega),(heap_set5 _ _ _ _ _ _ _ _ (by omega)).trans (HKr.out k (by omega) (fun e => h2 (by rw [e])))⟩)
    have hIt:ItemsAt (hidden (offB w.heap.size none) (((((wr.setCell ⟨w.heap.size + 1,0,none⟩ (.int .u8 V.k)).setCell ⟨w.heap.size + 1,1,none⟩ (.int .i64 V.n)).setCell ⟨w.heap.size + 1,2,none⟩ (.string V.t)).setCell ⟨w.heap.size + 1,3,none⟩ (.slice ca nl cc)).setCell ⟨w.heap.size + 1,4,none⟩ (.slice a j cp))) (.slice a j cp) (xs.map Prod.snd):=by
     have h1:=HIr.out.out (by omega)
     exact h1.carry fun k hk hP => ⟨offB_none.2 (by have:=offB_none.1 hP; omega),heap_set5 _ _ _ _ _ _ _ _ (by have:=offB_none.1 hP; omega)⟩
    have hNV:NewV w.heap.size (((((wr.setCell ⟨w.heap.size + 1,0,none⟩ (.int .u8 V.k)).setCell ⟨w.heap.size + 1,1,none⟩ (.int .i64 V.n)).setCell ⟨w.heap.size + 1,2,none⟩ (.string V.t)).setCell ⟨w.heap.size + 1,3,none⟩ (.slice ca nl cc)).setCell ⟨w.heap.size + 1,4,none⟩ (.slice a j cp)) (.mk V.k V.n V.t V.names (xs.map Prod.snd)) (.agg #[.int .u8 V.k,.int .i64 V.n,.string V.t,.slice ca nl cc,.slice a j cp]):=valAt_iff.2 ⟨_,_,rfl,k0,k1,n0,n1,ht,hNm,hIt⟩
    have HNV:=Lib.hid hNV
    have HCL:Hid (CutL (xs.map Prod.snd) V.items):=by
     have:=HXS.out
     rw [List.take_of_length_le (by rw [HE2.out]; exact Nat.le_refl _)] at this
     exact this
    clear hNm hIt hNV
    go_wp2_with fail
    exact bodyPost_ret (v:=.agg #[.int .u8 V.k,.int .i64 V.n,.string V.t,.slice ca nl cc,.slice a j cp]) (by simp [results,Tryz.results54,go_sem,z0,z1,z2,z3,z4]) rfl ⟨⟨V.k,V.n,V.t,ca,nl,cc,a,j,cp⟩,xs.map Prod.snd,rfl,HCL.out,bel_set (bel_set (bel_set (bel_set (bel_set HBr.out (Nat.le_succ _) _) (Nat.le_succ _) _) (Nat.le_succ _) _) (Nat.le_succ _) _) (Nat.le_succ _) _,HNV.out⟩
end

section
set_option maxRecDepth 100000
open Go.RowKit
theorem LiveN.keep {w w':World} (hb:Below w.heap.size w w'):∀ (N:Nat) (v:Value) (items:List JV),ItemsAt w v items → LiveN w N v items → LiveN w' N v items
 | 0,_,_,_,_ => trivial
 | N + 1,v,items,hI,hL => fun b o n c e j x hx => by
   obtain ⟨h1,h2⟩:=hL b o n c e j x hx
   obtain ⟨a,cap,e',-,hpart⟩:=hI.parts
   rw [e] at e'
   simp only [Value.slice.injEq] at e'
   obtain ⟨rfl,-,rfl⟩:=e'
   obtain ⟨b2,o2,vn,wi,eb,d0,-,-,-,d4,-,-,-,-,-,-,his⟩:=hpart j x hx
   simp only [Option.some.injEq,Addr.mk.injEq,and_true] at eb
   obtain ⟨rfl,rfl⟩:=eb
   refine ⟨?_,fun xi hxi => ?_⟩
   ·unfold World.frozen? at h1 ⊢
    rw [show w'.heap[b]? = w.heap[b]? from hb.block b (cell_lt d0)]
    exact h1
   ·have d4':=cell_keep hb d4
    rw [d4'] at hxi
    cases hxi
    exact LiveN.keep hb N _ _ his (h2 _ d4)
theorem Live.keep {w w':World} {v:Value} {items:List JV} (hI:ItemsAt w v items) (h:Live w v items) (hb:Below w.heap.size w w'):Live w' v items:=fun N => LiveN.keep hb N v items hI (h N)
theorem wt_zJV:wt zJV = 4:=by rw [wt_eq]; rfl
theorem cut_wtL:∀ {l' l:List JV},CutL l' l → wtL l' ≤ wtL l
 | [],[],_ => Nat.le_refl _
 | [],_ :: _,h => by have:=h.1; simp at this
 | _ :: _,[],h => by have:=h.1; simp at this
 | x :: l',y :: l,h => by
   have h2:CutL l' l:=⟨by have:=h.1; simpa using this,fun i z hz => by simpa using h.2 (i + 1) z (by simpa using hz)⟩
   have:=cut_wtL h2
   have hx:wt x ≤ wt y:=by
    rcases h.2 0 x rfl with e | rfl
    ·simp only [List.getElem?_cons_zero,Option.some.injEq] at e
     rw [e]
     exact Nat.le_refl _
    ·rw [wt_zJV,wt_eq y]; omega
   rw [wtL,wtL]
   omega
theorem cut_wt {V:JV} {l:List JV} (h:CutL l V.items):wt (.mk V.k V.n V.t V.names l) ≤ wt V:=by
 cases V with
 | mk k n t names items =>
   have h1:=cut_wtL h
   rw [wt_eq,wt_eq (.mk k n t names items)]
   simp only [JV.t,JV.names,JV.items] at h1 ⊢
   omega
def POfS (V:JV) (w:World) (e:Ending) (w':World):Prop:=∃ l,CutL l V.items ∧ POf2 (.mk V.k V.n V.t V.names l) w e w'
set_option maxHeartbeats 8000000 in
theorem pOf_some (V:JV) (x:VC) (w:World) (h:ValAt w V x.val) (hlive:Live w (.slice x.b x.m x.e) V.items) (hf:Fit V) (hwt:wt V ≤ 1000000000) :
 Calls Tryz.prog 34 #[x.val] w (POfS V w):=by
 obtain ⟨vn,vi,hxe,-,-,-,-,-,hns,his⟩:=valAt_iff.1 h
 obtain ⟨xk,xn,xt,xa,xl,xc,xb,xm,xe⟩:=x
 have HLV:=Lib.hid hlive
 simp only at HLV
 clear hlive
 simp only [VC.val,Value.agg.injEq,Array.mk.injEq,List.cons.injEq,Value.int.injEq,Value.string.injEq,true_and,and_true] at hxe
 obtain ⟨e1,e2,e3,e4,e5⟩:=hxe
 rw [← e4] at hns
 rw [← e5] at his
 obtain ⟨xa',xcap,hxs,hxl,-,hnc⟩:=hns.parts
 obtain ⟨xi',xicap,hxi,hil,-⟩:=his.parts
 simp only [Value.slice.injEq] at hxs hxi
 obtain ⟨f1,f2,f3⟩:=hxs
 obtain ⟨f4,f5,f6⟩:=hxi
 subst f1
 have HV:=Lib.hid h
 have HIS:=Lib.hid his
 have HNC:Hid (∀ i s,V.names[i]? = some s → ∃ b o,xa = some ⟨b,o,none⟩ ∧ w.cell? ⟨b,o + i,none⟩ = some (.string s)):=fun i s hs => by
  obtain ⟨b,o,e,hc⟩:=hnc i s hs
  exact ⟨b,o,e,hc⟩
 have HWT:=Lib.hid hwt
 have hB1:Below w.heap.size w (w.alloc (.cells #[.int .u8 xk,.int .i64 xn,.string xt,.slice xa xl xc,.slice xb xm xe] 29)):=bel_alloc (Below.refl _ _) _
 have HA:Hid (BlkAt (w.alloc (.cells #[.int .u8 xk,.int .i64 xn,.string xt,.slice xa xl xc,.slice xb xm xe] 29)) w.heap.size 29 #[.int .u8 xk,.int .i64 xn,.string xt,.slice xa xl xc,.slice xb xm xe]):=blkAt_new w _ _
 have s1:=size_al w (.cells #[.int .u8 xk,.int .i64 xn,.string xt,.slice xa xl xc,.slice xb xm xe] 29)
 obtain ⟨w1,hw1⟩:∃ y,y = w.alloc (.cells #[.int .u8 xk,.int .i64 xn,.string xt,.slice xa xl xc,.slice xb xm xe] 29):=⟨_,rfl⟩
 rw [← hw1] at hB1 HA s1
 have HW1:=Lib.hid hw1
 have HB1:=Lib.hid hB1
 obtain ⟨a0,a1,a2,a3,a4,af⟩:=b5 HA.out
 clear h hns his hnc e4 e5 hB1 hw1 hwt
 by_cases h5:V.k = 5
 ·obtain ⟨hl,hasc⟩:=hf h5
  have hk5:xk = 5:=by rw [e1,h5]
  have hlm:xl = xm:=by rw [f2,f5,hl]
  have hb5:(xk != 5) = false:=by rw [hk5]; rfl
  subst hlm
  have hneb:((xl:Int) != (xl:Int)) = false:=by simp
  have HASC:=Lib.hid hasc
  have H5:=Lib.hid h5
  have HL:=Lib.hid hl
  have HXL:=Lib.hid f2
  have hxl':xl ≤ 9223372036854775807:=by rw [f2]; exact hxl
  clear hf h5 hl hasc e1 e2 e3 f2 f3 f4 f5 f6 hk5 hxl hil
  go_enter Tryz.func34,Tryz.ntmps34
  simp only [VC.val]
  go_wp2_with fail
  rw [← HW1.out]
  go_loopw [3] (fun i wr => ∃ k:Nat,1 ≤ k ∧ (k ≤ xl ∨ k = 1) ∧ i = .int .i64 k ∧ ∃ nq,wr = w1.drewN nq) (fun i _ => xl - (intOf i).toNat)
  case atStart => exact ⟨1,by omega,Or.inr rfl,rfl,0,rfl⟩
  case round =>
   obtain ⟨k,hk1,hk,rfl,nq,rfl⟩:=hrel
   obtain ⟨j,rfl⟩:∃ j,k = j + 1:=⟨k - 1,by omega⟩
   by_cases hlt:j + 1 < xl
   ·obtain ⟨s,hs⟩:∃ s,V.names[j + 1]? = some s:=⟨_,List.getElem?_eq_getElem (by rw [← HXL.out]; exact hlt)⟩
    obtain ⟨p,hp⟩:∃ s,V.names[j]? = some s:=⟨_,List.getElem?_eq_getElem (by rw [← HXL.out]; omega)⟩
    obtain ⟨b,o,rfl,hcs⟩:=HNC.out (j + 1) s hs
    obtain ⟨b',o',hbo,hcp⟩:=HNC.out j p hp
    simp only [Option.some.injEq,Addr.mk.injEq,and_true] at hbo
    obtain ⟨rfl,rfl⟩:=hbo
    have hb:Op.bytesLess p.toList s.toList = true:=by
     have h1:=HASC.out
     rw [ascB,List.all_eq_true] at h1
     have h2:=h1 j (List.mem_range.2 (by rw [← HXL.out]; omega))
     simpa [lessAt,List.getD,hs,hp] using h2
    have hcs':=cell_keep HB1.out hcs
    have hcp':=cell_keep HB1.out hcp
    clear hs hp hcs hcp
    have hw1:IntKind.i64.wrap ((j:Int) + 1 - 1) = (j:Int):=by rw [IntWalk.i64_in ((j:Int) + 1 - 1) (by omega)]; omega
    have hj0:(0:Int) ≤ (j:Int):=by omega
    have hj1:(j:Int) < (xl:Int):=by omega
    have hj2:(j:Int) + 1 < (xl:Int):=by omega
    have hj3:((j:Int) + 1).toNat = j + 1:=by omega
    go_wp2_with fail
    go_quiet (fail)
    go_wp2_with fail
    refine ⟨⟨j + 1 + 1,by omega,by omega,by go_num,_,rfl⟩,?_⟩
    simp [intOf]; omega
   ·have hj2:¬ (j:Int) + 1 < (xl:Int):=by omega
    have HBN:=Lib.hid (below_drewN HB1.out nq)
    have HCP:=Lib.hid (Copy_some V (VC.val ⟨xk,xn,xt,xa,xl,xc,xb,xl,xe⟩) (w1.drewN nq) (HV.out.keep HBN.out) (fun c0 c1 c2 c3 vi e => by simp only [VC.val,Value.agg.injEq,Array.mk.injEq,List.cons.injEq,and_true] at e; obtain ⟨-,-,-,-,rfl⟩:=e; exact Live.keep HIS.out HLV.out HBN.out) HWT.out)
    simp only [VC.val] at HCP
    have hmm:=@run_makeMap Tryz.prog
    go_wp2_with fail
    refine HCP.out.mono ?_
    rintro e w2 ⟨⟨yk,yn,yt,ya,yl,yc,yb,ym,ye⟩,l',rfl,hcut,hb2,hnew⟩
    have HB2:=Lib.hid hb2
    have HNEW:Hid (ValAt (hidden (offB (w1.drewN nq).heap.size none) w2) (.mk V.k V.n V.t V.names l') (VC.val ⟨yk,yn,yt,ya,yl,yc,yb,ym,ye⟩)):=hnew
    have HCT:=Lib.hid hcut
    clear hb2 hnew HCP hcut
    simp only [VC.val]
    go_wp2_with fail
    go_ret
    have hbb:=bel_alloc (bel_alloc (Below.refl w2.heap.size w2) (.map #[] 0)) (.cells #[.int .u8 yk,.int .i64 yn,.string yt,.slice ya yl yc,.slice yb ym ye,.map (some w2.heap.size),.int .i64 0] 105)
    have hw12:=below_more HBN.out HB2.out
    refine ⟨l',HCT.out,w2.heap.size + 1,w2.heap.size,hidden (offB (w1.drewN nq).heap.size none) w2,w2,⟨yk,yn,yt,ya,yl,yc,yb,ym,ye⟩,(fun p u hu => by have h1:=offB_none.1 ((hidden_cell _ w2 p u).1 hu).1; have h2:=HBN.out.size; omega),rfl,below_more hw12 hbb,hw12,by have:=hw12.size; omega,hw12.size,by rw [size_al,size_al]; omega,by rw [size_al,size_al]; omega,?_⟩
    rw [pickQ,if_pos (show (JV.mk V.k V.n V.t V.names l').k = 5 from H5.out)]
    refine ⟨hbb,fun p u hu => ?_,HNEW.out,H5.out,HL.out.trans HCT.out.1.symm,HASC.out,Nat.le_trans (cut_wt HCT.out) HWT.out,by omega,by omega,by omega,?_,?_⟩
    ·obtain ⟨-,q2,q3⟩:=(hidden_cell _ w2 p u).1 hu
     exact (hidden_cell _ w2 p u).2 ⟨rfl,q2,q3⟩
    ·have:=blkAt_new (w2.alloc (.map #[] 0)) #[.int .u8 yk,.int .i64 yn,.string yt,.slice ya yl yc,.slice yb ym ye,.map (some w2.heap.size),.int .i64 0] 105
     rwa [size_al] at this
    ·exact (AskAt.made w2).keep (bel_alloc (Below.refl _ _) _)
 ·have hb5:(xk != 5) = true:=by rw [e1,bne_iff_ne]; exact h5
  have hp:pickQ V = .bad 10:=by unfold pickQ; rw [if_neg h5]
  have HP:=Lib.hid hp
  clear h5 hf e1 e2 e3 f2 f3 f4 f5 f6 hxl hil hp
  go_enter Tryz.func34,Tryz.ntmps34
  simp only [VC.val]
  go_wp2_with fail
  rw [← HW1.out]
  go_ret
  refine ⟨V.items,⟨rfl,fun i y h => Or.inl h⟩,w.heap.size + 1,w.heap.size + 1,hidden (fun _ => true) w1,w1,zC,(fun p u hu => by have h1:=((hidden_cell _ w1 p u).1 hu).1; cases h1),rfl,bel_alloc HB1.out _,HB1.out,by omega,by omega,by rw [size_al]; omega,by rw [size_al]; omega,?_⟩
  rw [show pickQ (.mk V.k V.n V.t V.names V.items) = .bad 10 from by rw [← V.eta]; exact HP.out]
  have hn:=blkAt_new w1 #[.int .u8 0,.int .i64 0,.string ⟨#[]⟩,.slice none 0 0,.slice none 0 0,.map none,.int .i64 10] 105
  rw [s1] at hn
  exact ⟨bel_alloc (Below.refl _ _) _,by omega,by decide,_,_,_,_,_,_,hn⟩
end

section
set_option maxRecDepth 100000
open Go.RowKit
theorem getN_cut:∀ (ns:List ByteArray) (l' l:List JV) (n:ByteArray),CutL l' l → getN ns l' n = getN ns l n ∨ getN ns l' n = some zJV
 | [],l',l,n,_ => Or.inl (by cases l' <;> cases l <;> simp [getN])
 | m :: ns,[],[],n,_ => Or.inl rfl
 | m :: ns,[],_ :: _,n,h => by have:=h.1; simp at this
 | m :: ns,_ :: _,[],n,h => by have:=h.1; simp at this
 | m :: ns,x :: l',y :: l,n,h => by
   have h2:CutL l' l:=⟨by have:=h.1; simpa using this,fun i z hz => by simpa using h.2 (i + 1) z (by simpa using hz)⟩
   rw [getN,getN]
   split
   ·rcases h.2 0 x rfl with e | rfl
    ·simp only [List.getElem?_cons_zero,Option.some.injEq] at e
     rw [e]
     exact Or.inl rfl
    ·exact Or.inr rfl
   ·exact getN_cut ns l' l n h2
theorem takeQ_cut {V:JV} {l:List JV} (h:CutL l V.items) (n:ByteArray) (k:Int) (hk:k ≠ 0) (s:PS):takeQ (.mk V.k V.n V.t V.names l) n k s = takeQ V n k s ∨ takeQ (.mk V.k V.n V.t V.names l) n k s = (none,.bad 10):=by
 cases V with
 | mk a b c d e' =>
   cases s with
   | bad e => exact Or.inl rfl
   | ok A =>
     rw [takeQ,takeQ]
     simp only [JV.names,JV.items] at h ⊢
     rcases getN_cut d l e' n h with e | e
     ·left
      rw [e]
     ·right
      rw [e]
      simp only
      rw [if_neg (show ¬ zJV.k = k from fun h => hk h.symm)]
theorem objQ_cut {V:JV} {l:List JV} (h:CutL l V.items) (n:ByteArray) (m:Nat) (s:PS):objQ (.mk V.k V.n V.t V.names l) n m s = objQ V n m s ∨ objQ (.mk V.k V.n V.t V.names l) n m s = (zJ,.bad 10):=by
 rw [objQ,objQ]
 rcases takeQ_cut h n 5 (by decide) s with e | e
 ·left; rw [e]
 ·right; rw [e]
theorem listQ_cut {V:JV} {l:List JV} (h:CutL l V.items) (n:ByteArray) (m:Nat) (s:PS):listQ (.mk V.k V.n V.t V.names l) n m s = listQ V n m s ∨ listQ (.mk V.k V.n V.t V.names l) n m s = ([],.bad 10):=by
 rw [listQ,listQ]
 rcases takeQ_cut h n 4 (by decide) s with e | e
 ·left; rw [e]
 ·right; rw [e]
theorem pickQ_cut (V:JV) (l:List JV):pickQ (.mk V.k V.n V.t V.names l) = pickQ V:=by cases V; rfl
theorem obj_fit_cut {V X:JV} {l:List JV} {nm:ByteArray} {most:Nat} {s':PS} (hm:mayB V = true) (hc:CutL l V.items) (h:objQ (.mk V.k V.n V.t V.names l) nm most (pickQ (.mk V.k V.n V.t V.names l)) = (X,s')):X.names.length = X.items.length ∧ X.items.length ≤ most:=by
 rw [pickQ_cut] at h
 rcases objQ_cut hc nm most (pickQ V) with e | e
 ·rw [e] at h
  exact obj_fit hm h
 ·rw [e] at h
  cases h
  exact ⟨rfl,Nat.zero_le _⟩
theorem list_may_cut {V:JV} {l':List JV} {nm:ByteArray} {most:Nat} {s s':PS} {l:List JV} (hm:mayB V = true) (hc:CutL l' V.items) (h5:∀ A,s = .ok A → V.k = 5) (h:listQ (.mk V.k V.n V.t V.names l') nm most s = (l,s')):(∀ y ∈ l,mayB y = true) ∧ l.length ≤ most ∧ ((∃ A,s' = .ok A) ∨ l = []):=by
 rcases listQ_cut hc nm most s with e | e
 ·rw [e] at h
  exact list_may hm h5 h
 ·rw [e] at h
  cases h
  exact ⟨by simp,Nat.zero_le _,Or.inr rfl⟩
def chartE (V:JV):PQ MapP :=
 let o:=objQ V tRepos 8 (pickQ V)
 let l:=listQ V tMapping 16 (failQ (reposV o.1).2 o.2)
 let s:=failQ (mapsV (namesR (reposV o.1).1) l.1).2 l.2
 if doneQ V s ≠ 0 then .bad (doneQ V s) else .ok ⟨(reposV o.1).1,(mapsV (namesR (reposV o.1).1) l.1).1⟩
theorem chartV_E {V:JV} (h:mayB V = true):chartV V = chartE V:=by
 unfold chartV chartE
 rw [if_neg (by rw [h]; decide)]
theorem doneQ_cut (V:JV) (l:List JV) (s:PS):doneQ (.mk V.k V.n V.t V.names l) s = doneQ V s:=by cases s <;> cases V <;> rfl
theorem chartE_cut {V:JV} {l:List JV} (h:CutL l V.items):chartE (.mk V.k V.n V.t V.names l) = chartE V ∨ ∃ e,chartE (.mk V.k V.n V.t V.names l) = .bad e:=by
 have hb:∀ e e',failQ e (.bad e') = .bad e':=fun _ _ => rfl
 have hq:doneQ V (.bad 10) = 10:=rfl
 have h10:(10:Int) ≠ 0:=by decide
 unfold chartE
 simp only [doneQ_cut,pickQ_cut]
 rcases objQ_cut h tRepos 8 (pickQ V) with e1 | e1
 ·rw [e1]
  rcases listQ_cut h tMapping 16 (failQ (reposV (objQ V tRepos 8 (pickQ V)).1).2 (objQ V tRepos 8 (pickQ V)).2) with e2 | e2
  ·left; rw [e2]
  ·right
   rw [e2]
   refine ⟨10,?_⟩
   simp only [hb,hq]
   rw [if_pos h10]
 ·right
  rw [e1]
  have e2:listQ (.mk V.k V.n V.t V.names l) tMapping 16 (.bad 10) = ([],.bad 10):=rfl
  refine ⟨10,?_⟩
  simp only [hb,e2,hq]
  rw [if_pos h10]
def POfC (C:List JV → Prop) (V:JV) (w:World) (e:Ending) (w':World):Prop:=∃ l,C l ∧ CutL l V.items ∧ POf2 (.mk V.k V.n V.t V.names l) w e w'
def CGen (C:List JV → Prop) (V:JV) (w:World) (e:Ending) (w':World):Prop :=
 (mayB V = false ∧ MapPost (.bad 3) w e w') ∨ (mayB V = true ∧ ∃ l,C l ∧ CutL l V.items ∧ MapPost (chartE (.mk V.k V.n V.t V.names l)) w e w')
theorem cgen_mk {C:List JV → Prop} {V:JV} {w w':World} {e:Ending} {l:List JV} {R:PQ MapP} (hm:mayB V = true) (hc:C l) (hl:CutL l V.items) (hR:chartE (.mk V.k V.n V.t V.names l) = R) (h:MapPost R w e w'):CGen C V w e w' :=
 Or.inr ⟨hm,l,hc,hl,by rw [hR]; exact h⟩
set_option maxHeartbeats 16000000 in
theorem cOf_gen (C:List JV → Prop) (V0:JV) (x:VC) (w:World) (hvw:ValAt w V0 x.val) (hof:mayB V0 = true → ∀ W,Below w.heap.size w W → Calls Tryz.prog 34 #[x.val] W fun e w' => POfC C V0 W e w') :
 Calls Tryz.prog 10 #[x.val] w (CGen C V0 w):=by
 obtain ⟨mb,hmb⟩:∃ b,mayB V0 = b:=⟨_,rfl⟩
 have hmay:=fun W (hb:Below w.heap.size w W) => May_any V0 x.val W (hvw.keep hb)
 rw [hmb] at hmay
 have HMAY:=Lib.hid hmay
 obtain ⟨xk,xn,xt,xa,xl,xc,xb,xm,xe⟩:=x
 obtain ⟨W,hW⟩:∃ W,W = (w.alloc (.cells #[.int .u8 xk,.int .i64 xn,.string xt,.slice xa xl xc,.slice xb xm xe] 29)).alloc (.cells #[.slice none 0 0,.slice none 0 0] 25):=⟨_,rfl⟩
 have hbW:Below w.heap.size w W:=by rw [hW]; exact bel_alloc (bel_alloc (Below.refl _ _) _) _
 have hrb:BlkAt W (w.heap.size + 1) 25 #[.slice none 0 0,.slice none 0 0]:=by
  rw [hW]
  have:=blkAt_new (w.alloc (.cells #[.int .u8 xk,.int .i64 xn,.string xt,.slice xa xl xc,.slice xb xm xe] 29)) #[.slice none 0 0,.slice none 0 0] 25
  rwa [size_al] at this
 have hvb:BlkAt W w.heap.size 29 #[.int .u8 xk,.int .i64 xn,.string xt,.slice xa xl xc,.slice xb xm xe]:=by
  rw [hW]
  exact (blkAt_new w _ _).alloc _
 have HBW:=Lib.hid hbW
 have HRB:=Lib.hid hrb
 have HVB:=Lib.hid hvb
 have HW:=Lib.hid hW
 cases mb with
 | false =>
   have HMB:=Lib.hid hmb
   clear hof hvw hmb hW hbW hrb hvb hmay
   obtain ⟨a0,a1,a2,a3,a4,af⟩:=b5 HVB.out
   go_enter Tryz.func10,Tryz.ntmps10
   simp only [VC.val] at HMAY ⊢
   go_wp2_with fail
   rw [← HW.out]
   refine (HMAY.out _ HBW.out).mono ?_
   rintro e w2 ⟨rfl,hb2⟩
   obtain ⟨r0,r1,rf⟩:=b2c (BlkAt.keep HRB.out hb2)
   have HB2:=Lib.hid (below_more HBW.out hb2)
   clear hb2
   go_wp2_with fail
   refine bodyPost_ret (v:=.tuple #[.agg #[.slice none 0 0,.slice none 0 0],.int .i64 3]) (by simp [results,Tryz.results10,go_sem,r0,r1]) rfl (Or.inl ⟨HMB.out,?_,rfl,by decide⟩)
   exact bel_set (bel_set HB2.out (Nat.le_succ _) _) (Nat.le_succ _) _
 | true =>
   have HMB:=Lib.hid hmb
   have HOF:=Lib.hid (hof hmb)
   have HN1:Hid (tRepos.size ≤ maxLen):=by show _ ≤ _; decide
   have HN2:Hid (tMapping.size ≤ maxLen):=by show _ ≤ _; decide
   obtain ⟨a0,a1,a2,a3,a4,af⟩:=b5 HVB.out
   clear hof hvw hmb hW hbW hrb hvb hmay
   go_enter Tryz.func10,Tryz.ntmps10
   simp only [VC.val] at HMAY HOF ⊢
   go_wp2_with fail
   rw [← HW.out]
   refine (HMAY.out _ HBW.out).mono ?_
   rintro e w2 ⟨rfl,hb2⟩
   have HB2:=Lib.hid (below_more HBW.out hb2)
   have hw2s:w.heap.size + 1 < w2.heap.size:=BlkAt.lt (BlkAt.keep HRB.out hb2)
   obtain ⟨w3,hw3⟩:∃ y,y = w2.alloc (.cells #[.slice none 0 0,.slice none 0 0] 25):=⟨_,rfl⟩
   have hb23:Below w2.heap.size w2 w3:=by rw [hw3]; exact bel_alloc (Below.refl _ _) _
   have HM3:Hid (BlkAt w3 w2.heap.size 25 #[.slice none 0 0,.slice none 0 0]):=by rw [hw3]; exact blkAt_new w2 _ _
   have HR3:=Lib.hid ((BlkAt.keep HRB.out hb2).keep hb23)
   have HB3:=Lib.hid (below_more HB2.out hb23)
   have hs3z:w3.heap.size = w2.heap.size + 1:=by rw [hw3,size_al]
   have HW3:=Lib.hid hw3
   obtain ⟨a0,a1,a2,a3,a4,af⟩:=b5 ((BlkAt.keep HVB.out hb2).keep hb23)
   obtain ⟨b,hb⟩:∃ y,w2.heap.size = y:=⟨_,rfl⟩
   rw [hb] at hw2s HM3 hs3z
   rw [HW3.out] at a0 a1 a2 a3 a4 af
   have HBB:=Lib.hid hb
   clear hb2 hb23 hw3 hb HW HBW HRB HMAY HVB HB2
   go_wp2_with fail
   rw [← HW3.out,HBB.out]
   refine (HOF.out _ HB3.out).mono ?_
   rintro e w4 ⟨l',hcl,hcut,o,B,Q,w0,x',hQ,rfl,hb4,hbw0,how,hBw,ho4,hB4,hd4⟩
   have HCL:=Lib.hid hcl
   have HCT:=Lib.hid hcut
   obtain ⟨V,hV⟩:∃ y,JV.mk V0.k V0.n V0.t V0.names l' = y:=⟨_,rfl⟩
   rw [hV] at hd4
   have HVE:=Lib.hid hV
   clear hcl hcut hV
   obtain ⟨s0,hs0⟩:∃ s,pickQ V = s:=⟨_,rfl⟩
   rw [hs0] at hd4
   obtain ⟨X,s1,hs1⟩:∃ t s,objQ V tRepos 8 s0 = (t,s):=⟨_,_,rfl⟩
   obtain ⟨Y,hY⟩:∃ Y,reposV X = Y:=⟨_,rfl⟩
   obtain ⟨s2,hs2⟩:∃ s,failQ Y.2 s1 = s:=⟨_,rfl⟩
   obtain ⟨l,s3,hs3⟩:∃ t s,listQ V tMapping 16 s2 = (t,s):=⟨_,_,rfl⟩
   obtain ⟨Z,hZ⟩:∃ Z,mapsV (namesR Y.1) l = Z:=⟨_,rfl⟩
   obtain ⟨s4,hs4⟩:∃ s,failQ Z.2 s3 = s:=⟨_,rfl⟩
   obtain ⟨R,hr⟩:∃ R:PQ MapP,(if doneQ V s4 ≠ 0 then PQ.bad (doneQ V s4) else .ok ⟨Y.1,Z.1⟩) = R:=⟨_,rfl⟩
   have hr0:chartE V = R:=by
    unfold chartE
    simp only [hs0,hs1,hY,hs2,hs3,hZ,hs4]
    exact hr
   have f0:Few 0 s0:=hs0 ▸ few_pick V
   have f1:=few_obj f0 hs1
   have f2:Few 1 s2:=hs2 ▸ few_fail f1 _
   have f3:=few_list f2 hs3
   have f4:Few 2 s4:=hs4 ▸ few_fail f3 _
   have hX:X.names.length = X.items.length ∧ X.items.length ≤ 8:=by
    refine obj_fit_cut (V:=V0) (nm:=tRepos) (s':=s1) HMB.out HCT.out ?_
    rw [HVE.out,hs0]
    exact hs1
   have hl:(∀ y ∈ l,mayB y = true) ∧ l.length ≤ 16 ∧ ((∃ A,s3 = .ok A) ∨ l = []):=by
    refine list_may_cut (V:=V0) (nm:=tMapping) (s:=s2) HMB.out HCT.out (fun A hA => ?_) (by rw [HVE.out]; exact hs3)
    have h5:V.k = 5:=obj_five (V:=V) (X:=X) (nm:=tRepos) (most:=8) (s':=s1) (e:=Y.2) (by rw [hs0]; exact hs1) A (by rw [hs2]; exact hA)
    rw [← HVE.out] at h5
    exact h5
   have HR:=Lib.hid hr
   have HS1:=Lib.hid hs1
   have HY:=Lib.hid hY
   have HS2:=Lib.hid hs2
   have HS3:=Lib.hid hs3
   have HZ:=Lib.hid hZ
   have HS4:=Lib.hid hs4
   have HF0:=Lib.hid (f0.le (show 0 ≤ 900 by omega))
   have HF2:=Lib.hid (f2.le (show 1 ≤ 900 by omega))
   have HF4:=Lib.hid (f4.le (show 2 ≤ 1000 by omega))
   have HX:=Lib.hid hX
   have HL:=Lib.hid hl
   have HR0:=Lib.hid hr0
   clear hs0 hs1 hY hs2 hs3 hZ hs4 hr hr0 f0 f1 f2 f3 f4 hX hl
   have hp4:PI (b + 1) w4 o B V x' s0:=⟨Q,w0,fun p u hu => by rw [← hs3z]; exact hQ p u hu,by rw [← hs3z]; exact hbw0.size,by omega,by omega,ho4,hB4,hd4⟩
   have HR4:=Lib.hid (BlkAt.keep HR3.out hb4)
   have HM4:=Lib.hid (BlkAt.keep HM3.out hb4)
   have HB4:=Lib.hid (below_more HB3.out hb4)
   have HT:=Lib.hid (hp4.object tRepos 8 HF0.out HN1.out X s1 HS1)
   have hoM:b + 1 ≤ o:=by omega
   have hBM:b + 1 ≤ B:=by omega
   clear HOF HR3 HM3 HB3 hb4 hbw0 hd4 hp4 hQ how hBw hs3z a0 a1 a2 a3 a4 af HW3
   go_wp2_with fail
   refine HT.out.mono ?_
   rintro e w5 ⟨⟨⟨zk,zn,zt,za,zl,zc,zb,zm,ze⟩,rfl,hv5⟩,hp5,hsep5⟩
   have HR5:=Lib.hid (blk_sep HR4.out hsep5 (by omega) (by omega))
   have HM5:=Lib.hid (blk_sep HM4.out hsep5 (by omega) (by omega))
   have HB5:Hid (Below w.heap.size w w5):=hsep5.below HB4.out (by omega) (fun k hk => by have:=Option.some.inj hk; omega)
   have ho5:o < w5.heap.size:=Nat.lt_of_lt_of_le ho4 hsep5.size
   have hB5:B < w5.heap.size:=Nat.lt_of_lt_of_le hB4 hsep5.size
   have HRE:=Lib.hid (reposOf_any X ⟨zk,zn,zt,za,zl,zc,zb,zm,ze⟩ w5 (hv5.imp fun p u hu => ((hidden_cell _ _ p u).1 hu).2.2) HX.out.1 (by have:=HX.out.2; omega))
   rw [HY.out] at HRE
   have HP5:=Lib.hid hp5
   simp only [VC.val] at HRE ⊢
   unfold ReposPost at HRE
   clear HT HR4 HM4 HB4 hv5 hp5 hsep5 ho4 hB4
   go_wp2_with fail
   refine HRE.out.mono ?_
   rintro e w6 ⟨ra,rc,rs,rfl,hb6,hro6,hrs⟩
   have HR6:=Lib.hid (HR5.out.keep hb6)
   have hm6:=HM5.out.keep hb6
   obtain ⟨m0,m1,mf⟩:=b2c hm6
   obtain ⟨w7,hw7⟩:∃ y,y = w6.setCell ⟨b,0,none⟩ (.slice ra rs.length rc):=⟨_,rfl⟩
   have hbz:b < w5.heap.size:=HM5.out.lt
   have HR7:Hid (BlkAt w7 (w.heap.size + 1) 25 #[.slice none 0 0,.slice none 0 0]):=by rw [hw7]; exact HR6.out.set_far (by omega) _ _
   have HM7:Hid (BlkAt w7 b 25 #[.slice ra rs.length rc,.slice none 0 0]):=by rw [hw7]; exact hm6.set 0 _
   have HB7:Hid (Below w.heap.size w w7):=by rw [hw7]; exact bel_set (below_more HB5.out hb6) (p:=⟨b,0,none⟩) (by show w.heap.size ≤ b; omega) _
   have hp7:PI (b + 1) w7 o B V x' s1:=by rw [hw7]; exact (HP5.out.keep hb6).low (by omega) _ _
   have HRO7:Hid (ReposOwn w7 w5.heap.size (.slice ra rs.length rc) rs):=by rw [hw7]; exact hro6.up ((Up.of_below (Below.refl _ _)).set hbz _ _)
   have HRS:=Lib.hid hrs
   have HPF:=Lib.hid (hp7.fail Y.2)
   rw [HS2.out] at HPF
   obtain ⟨n5,hn5⟩:∃ n,w5.heap.size = n:=⟨_,rfl⟩
   rw [hn5] at HRO7 hbz ho5 hB5
   have h57:n5 ≤ w7.heap.size:=by rw [hw7,setCell_size,← hn5]; exact hb6.size
   have HW7:=Lib.hid hw7
   clear HRE HR5 HM5 HB5 hb6 hro6 hrs hm6 hp7 HP5 hn5 hw7 HR6
   go_wp2_with fail
   rw [← HW7.out]
   refine HPF.out.mono ?_
   rintro e w8 ⟨rfl,hp8,hsep8⟩
   have HR8:=Lib.hid (blk_sep HR7.out hsep8 (by omega) (by omega))
   have HM8:=Lib.hid (blk_sep HM7.out hsep8 (by omega) (by omega))
   have HB8:Hid (Below w.heap.size w w8):=hsep8.below HB7.out (by omega) (fun k hk => by have:=Option.some.inj hk; omega)
   have HRO8:=Lib.hid (HRO7.out.up (Up.of_sep hsep8 ho5 hB5))
   have h58:n5 ≤ w8.heap.size:=Nat.le_trans h57 hsep8.size
   have HT:=Lib.hid (hp8.list tMapping 16 HF2.out HN2.out l s3 HS3)
   clear HPF HR7 HM7 HB7 HRO7 hp8 hsep8 h57 HW7 m0 m1 mf
   go_wp2_with fail
   refine HT.out.mono ?_
   rintro e w9 ⟨⟨sl,rfl,hit⟩,hp9,hsep9⟩
   obtain ⟨la,lc,rfl,hl0,-⟩:=hit.parts
   obtain ⟨n,hn⟩:∃ n,l.length = n:=⟨_,rfl⟩
   have hn16:n ≤ 16:=by rw [← hn]; exact HL.out.2.1
   have HR9:=Lib.hid (blk_sep HR8.out hsep9 (by omega) (by omega))
   have HM9:=Lib.hid (blk_sep HM8.out hsep9 (by omega) (by omega))
   have HB9:Hid (Below w.heap.size w w9):=hsep9.below HB8.out (by omega) (fun k hk => by have:=Option.some.inj hk; omega)
   have HRO9:=Lib.hid (HRO8.out.up (Up.of_sep hsep9 ho5 hB5))
   have HIT:=Lib.hid (hit.imp (hid_lower h58 _))
   have HN:=Lib.hid hn
   have HP9:=Lib.hid hp9
   have HZ':Hid (([]:List MapgP) ++ (mapsV (namesR Y.1) (l.drop 0)).1 = Z.1 ∧ (mapsV (namesR Y.1) (l.drop 0)).2 = Z.2):=by
    show _ ∧ _
    rw [List.drop_zero,List.nil_append,HZ.out]
    exact ⟨rfl,rfl⟩
   obtain ⟨M0,hM0⟩:∃ m,w9.heap.size = m:=⟨_,rfl⟩
   have hM5:n5 ≤ M0:=by rw [← hM0]; exact Nat.le_trans h58 hsep9.size
   have HM0:=Lib.hid hM0
   have HRL:Hid (∀ k,(Value.slice ra rs.length rc).ownBlock = some k → k < M0):=fun k hk => by rw [← hM0]; exact (World.ownsRow.lt HRO9.out.1 k hk).2
   obtain ⟨i0,hi,hz0,hz1,hz2⟩:=info_parts infoMapg
   have HI:=Lib.hid hi
   have HZ0:=Lib.hid hz0
   have HZ1:=Lib.hid hz1
   have HZ2:=Lib.hid hz2
   rw [hn] at HIT ⊢
   clear hi hz0 hz1 hz2 HT HR8 HM8 HB8 HRO8 hp9 hsep9 hit hl0 hn h58 hM0
   go_wp2_with fail
   go_loopw [31] (fun i wr => ∃ (j:Nat) (gs:List GX) (va:Option Addr) (vc:Nat),j ≤ n ∧ i = .int .i64 j ∧ M0 ≤ wr.heap.size ∧ Hid (gs.length = j) ∧ Hid (PI (b + 1) wr o B V x' s3) ∧ Hid (BlkAt wr (w.heap.size + 1) 25 #[.slice none 0 0,.slice none 0 0]) ∧ Hid (BlkAt wr b 25 #[.slice ra rs.length rc,.slice va j vc]) ∧ Hid (MapsOwn wr M0 (.slice va j vc) gs) ∧ Hid (∀ g ∈ gs,g.x.repos.length ≤ g.c2 ∧ 0 ≤ g.x.thr ∧ g.x.thr ≤ 8) ∧ Hid (Up n5 w9 wr) ∧ Hid (Below w.heap.size w wr) ∧ Hid (gs.map GX.x ++ (mapsV (namesR Y.1) (l.drop j)).1 = Z.1 ∧ (mapsV (namesR Y.1) (l.drop j)).2 = Z.2)) (fun i _ => n - (intOf i).toNat)
   case atStart => exact ⟨0,[],none,0,by omega,rfl,by rw [HM0.out]; exact Nat.le_refl _,rfl,HP9.out,HR9.out,HM9.out,MapsOwn.nil _ _,(by intro g hg; cases hg),Up.of_below (Below.refl _ _),HB9.out,HZ'.out⟩
   case round =>
    obtain ⟨j,gs,va,vc,hj,rfl,hMr,HGL,HPr,HRr,HMr,HOr,HKr,HUr,HBr,HQr⟩:=hrel
    clear HP9 HR9 HM9 HB9 HZ'
    by_cases hjn:j < n
    ·have hi0:(0:Int) ≤ (j:Int):=by omega
     have hi1:(j:Int) < (n:Int):=by omega
     obtain ⟨y,hy⟩:∃ y,l[j]? = some y:=⟨_,List.getElem?_eq_getElem (by rw [HN.out]; exact hjn)⟩
     obtain ⟨ib,io,⟨yk,yn,yt,ya,yl,yc,yb,ym,ye⟩,rfl,c0,c1,c2,c3,c4,hyv⟩:=item_vc HIT.out hy
     have d0:=((hidden_cell _ _ _ _).1 (HUr.out.val _ _ c0)).2.2
     have d1:=((hidden_cell _ _ _ _).1 (HUr.out.val _ _ c1)).2.2
     have d2:=((hidden_cell _ _ _ _).1 (HUr.out.val _ _ c2)).2.2
     have d3:=((hidden_cell _ _ _ _).1 (HUr.out.val _ _ c3)).2.2
     have d4:=((hidden_cell _ _ _ _).1 (HUr.out.val _ _ c4)).2.2
     have hyp:ValAt (pureW wr) y (VC.val ⟨yk,yn,yt,ya,yl,yc,yb,ym,ye⟩):=(hyv.imp HUr.out.val).imp fun p u hu => by
      obtain ⟨-,q2,q3⟩:=(hidden_cell _ _ _ _).1 hu
      exact (hidden_cell _ _ _ _).2 ⟨rfl,q2,q3⟩
     have hmy:=HL.out.1 y (List.mem_of_getElem? hy)
     have hst:=mapsV_step (R:=namesR Y.1) hy
     obtain ⟨wa,hwa⟩:∃ z,z = wr.alloc (.cells #[.int .u8 yk,.int .i64 yn,.string yt,.slice ya yl yc,.slice yb ym ye] 29):=⟨_,rfl⟩
     have hba:Below wr.heap.size wr wa:=by rw [hwa]; exact bel_alloc (Below.refl _ _) _
     have hrl9:rs.length ≤ 9223372036854775807:=by
      have h1:rs.length = Y.1.length:=by rw [← HRS.out,List.length_map]
      have h3:=repos_few HY.out
      have h4:=HX.out.2
      omega
     have hra:ReposAt wa (.slice ra rs.length rc) (rs.map RX.r):=((((HRO9.out.up HUr.out).keep hba).out hrl9).imp fun p u hu => ((hidden_cell _ _ p u).1 hu).2.2)
     have HMP:=Lib.hid (mappingOf_any y ⟨yk,yn,yt,ya,yl,yc,yb,ym,ye⟩ (rs.map RX.r) (.slice ra rs.length rc) wa (hyp.imp (pure_keep hba)) (may_fit hmy) (wt_may hmy) hra)
     rw [HRS.out] at HMP
     unfold MapgPost at HMP
     obtain ⟨m0,m1,mf⟩:=b2c (HMr.out.keep hba)
     have HBA:=Lib.hid hba
     have HWA:=Lib.hid hwa
     have HST:=Lib.hid hst
     rw [HWA.out] at m0 m1 mf
     clear c0 c1 c2 c3 c4 hyv hy hyp hba hwa hmy hst hra hrl9
     simp only [VC.val] at HMP
     go_wp2_with fail
     rw [← HWA.out]
     refine HMP.out.mono ?_
     rintro e w10 ⟨hb10,hcs⟩
     clear m0 m1 mf d0 d1 d2 d3 d4 HMP
     rcases hcs with ⟨m,b1,k1,b2,k2,hok,rfl,hcap,hsp,hsr⟩ | ⟨er,hne,hbad,rfl⟩
     ·have hst:=HST.out
      rw [hok] at hst
      simp only at hst
      have hth:=mapping_thr hok
      obtain ⟨mp,mr,mt,mh⟩:=m
      simp only at hcap hsp hsr hth ⊢
      obtain ⟨p1,hp1⟩:∃ p,mp.length = p:=⟨_,rfl⟩
      obtain ⟨p2,hp2⟩:∃ p,mr.length = p:=⟨_,rfl⟩
      rw [hp1] at hsp ⊢
      rw [hp2] at hcap hsr ⊢
      obtain ⟨w11,hw11⟩:∃ z,z = w10.alloc (.cells #[.slice b1 p1 k1,.slice b2 p2 k2,.bool mt,.int .i64 mh] 58):=⟨_,rfl⟩
      have hb11:Below w10.heap.size w10 w11:=by rw [hw11]; exact bel_alloc (Below.refl _ _) _
      have HT11:Hid (BlkAt w11 w10.heap.size 58 #[.slice b1 p1 k1,.slice b2 p2 k2,.bool mt,.int .i64 mh]):=by rw [hw11]; exact blkAt_new w10 _ _
      have hbb:=below_more (below_more HBA.out hb10) hb11
      have HM11:=Lib.hid (HMr.out.keep hbb)
      have hs11:w11.heap.size = w10.heap.size + 1:=by rw [hw11,size_al]
      have HW11:=Lib.hid hw11
      have HBB11:=Lib.hid hbb
      have HSP:Hid (StrsAt (hidden (offB wr.heap.size none) w11) (.slice b1 p1 k1) mp):=strs_bel (strs_low hsp HBA.out.size) hb11
      have HSR:Hid (StrsAt (hidden (offB wr.heap.size none) w11) (.slice b2 p2 k2) mr):=strs_bel (strs_low hsr HBA.out.size) hb11
      have HCAP:=Lib.hid hcap
      have HTH:=Lib.hid hth
      have HP1:=Lib.hid hp1
      have HP2:=Lib.hid hp2
      have HST2:=Lib.hid hst
      have hlw:wr.heap.size ≤ w10.heap.size:=Nat.le_trans HBA.out.size hb10.size
      obtain ⟨t0,t1,t2,t3,tf⟩:=b4' HT11.out
      obtain ⟨m0,m1,mf⟩:=b2c HM11.out
      rw [HW11.out] at t0 t1 t2 t3 tf m0 m1 mf
      have hnc:∀ i u,[Value.slice b1 p1 k1,.slice b2 p2 k2,.bool mt,.int .i64 mh][i]? = some u → ((w10.alloc (.cells #[.slice b1 p1 k1,.slice b2 p2 k2,.bool mt,.int .i64 mh] 58)).alloc (.cells #[.slice b1 p1 k1,.slice b2 p2 k2,.bool mt,.int .i64 mh] 58)).cell? ((⟨w10.heap.size + 1,0,none⟩:Addr).add i) = some u:=fun i u hj => by
       have hadd:(⟨w10.heap.size + 1,0,none⟩:Addr).add i = ⟨w10.heap.size + 1,i,none⟩:=by unfold Addr.add; split <;> simp_all
       rw [hadd,cell_al_eq _ _ _ _ _ (by rw [size_al])]
       simpa using hj
      have hone:∀ u ∈ [Value.slice b1 p1 k1,.slice b2 p2 k2,.bool mt,.int .i64 mh],u.oneCell' = true:=fun u hu => by
       simp only [List.mem_cons,List.not_mem_nil,or_false] at hu
       rcases hu with rfl | rfl | rfl | rfl <;> rfl
      have hm3:M0 ≤ ((w10.alloc (.cells #[.slice b1 p1 k1,.slice b2 p2 k2,.bool mt,.int .i64 mh] 58)).alloc (.cells #[.slice b1 p1 k1,.slice b2 p2 k2,.bool mt,.int .i64 mh] 58)).heap.size:=by rw [size_al,size_al]; omega
      have hor:=(HOr.out.keep hbb).1
      rw [HGL.out] at hor
      have HOR:=Lib.hid (hw11 ▸ hor)
      have HNC:=Lib.hid hnc
      have HONE:=Lib.hid hone
      have HMX:=Lib.hid hm3
      clear hnc hone hm3 hor hok hst hth hcap hsp hsr hw11 hbb hb11 hb10 hp1 hp2
      go_wp2_with (at_builtin; refine wpList_append_own_at _ rfl _ _ 23 rfl M0 58 i0 (.agg #[.slice none 0 0,.slice none 0 0,.bool false,.int .i64 0]) 4 64 Tryz.underlying23 HI.out HZ0.out HZ1.out HZ2.out rfl (by decide) _ _ _ rfl (World.ownsRow.alloc HOR.out _) ⟨_,0,none⟩ 1 1 [.slice b1 p1 k1,.slice b2 p2 k2,.bool mt,.int .i64 mh] rfl rfl HNC.out HONE.out (by unfold maxLen; omega) (by omega) HMX.out ?_)
      intro v' w12 hown12 hgrow12 _ hat12
      rw [← HW11.out] at hgrow12
      have hat12:=hat12.imp_right (fun e:v'.ownBlock = some (w10.heap.size + 1 + 1) => (show v'.ownBlock = some (w11.alloc (.cells #[.slice b1 p1 k1,.slice b2 p2 k2,.bool mt,.int .i64 mh] 58)).heap.size by rw [e,size_al,hs11]))
      obtain ⟨g9,p9,rfl,hg9,hg9'⟩:=World.ownsRow.form hown12 (by omega)
      have hlow:∀ k,k < M0 → (Value.slice va j vc).ownBlock ≠ some k:=fun k hk e => by have:=(World.ownsRow.lt HOr.out.1 k e).1; omega
      have hkeep:∀ k,k < wr.heap.size → (Value.slice va j vc).ownBlock ≠ some k → w12.heap[k]? = wr.heap[k]?:=fun k hk hne => (hgrow12.block k (by rw [size_al]; have:=HBB11.out.size; omega) (fun e => hne e.symm)).trans ((bel_alloc HBB11.out (.cells #[.slice b1 p1 k1,.slice b2 p2 k2,.bool mt,.int .i64 mh] 58)).block k hk)
      have hs12:wr.heap.size ≤ w12.heap.size:=by have h1:=hgrow12.size; rw [size_al] at h1; have:=HBB11.out.size; omega
      have hb12:Below M0 wr w12:=⟨hgrow12.os.trans HBB11.out.os,hgrow12.tape.trans HBB11.out.tape,hgrow12.output.trans HBB11.out.output,by omega,fun k hk => hkeep k (by omega) (hlow k hk)⟩
      have HM12:Hid (BlkAt w12 b 25 #[.slice ra rs.length rc,.slice va j vc]):=(hkeep b (by omega) (hlow b (by omega))).trans HMr.out
      have HR12:Hid (BlkAt w12 (w.heap.size + 1) 25 #[.slice none 0 0,.slice none 0 0]):=(hkeep _ (by omega) (hlow _ (by omega))).trans HRr.out
      have hp12:PI (b + 1) w12 o B V x' s3:=by
       obtain ⟨Q,w0,q1,q2,q3,q4,q5,q6,q7⟩:=HPr.out
       have hbl:=q7.bel
       have hol:=q7.olt
       exact ⟨Q,w0,q1,q2,q3,q4,by omega,by omega,q7.later ⟨hb12.os.trans hbl.os,hb12.tape.trans hbl.tape,hb12.output.trans hbl.output,Nat.le_trans hbl.size hs12,fun k hk => (hkeep k (by have:=hbl.size; omega) (hlow k (by omega))).trans (hbl.block k hk)⟩ (hkeep o (by omega) (hlow o (by omega))) (hkeep B (by omega) (hlow B (by omega)))⟩
      have hsn:MapsOwn w12 M0 (.slice (some ⟨g9,0,none⟩) (j + 1) p9) (gs ++ [⟨⟨mp,mr,mt,mh⟩,b1,k1,b2,k2⟩]):=by
       refine MapsOwn.snoc (g:=⟨⟨mp,mr,mt,mh⟩,b1,k1,b2,k2⟩) HOr.out (bel_alloc HBB11.out (.cells #[.slice b1 p1 k1,.slice b2 p2 k2,.bool mt,.int .i64 mh] 58)) hMr ?_ hgrow12 hat12 ?_ ?_
       ·rw [HGL.out]
        show w12.ownsRow _ _ _ _ _ (gxCells gs ++ [.slice b1 mp.length k1,.slice b2 mr.length k2,.bool mt,.int .i64 mh])
        rw [HP1.out,HP2.out]
        exact hown12
       ·show StrsAt _ (.slice b1 mp.length k1) mp
        rw [HP1.out]
        exact strs_bel HSP.out (bel_alloc (Below.refl _ w11) _)
       ·show StrsAt _ (.slice b2 mr.length k2) mr
        rw [HP2.out]
        exact strs_bel HSR.out (bel_alloc (Below.refl _ w11) _)
      have HKE:Hid (∀ g ∈ gs ++ [(⟨⟨mp,mr,mt,mh⟩,b1,k1,b2,k2⟩:GX)],g.x.repos.length ≤ g.c2 ∧ 0 ≤ g.x.thr ∧ g.x.thr ≤ 8):=fun g hg => by
       rcases List.mem_append.1 hg with hg | hg
       ·exact HKr.out g hg
       ·rw [List.mem_singleton.1 hg]
        exact ⟨by show mr.length ≤ k2; rw [HP2.out]; exact HCAP.out,HTH.out.1,HTH.out.2⟩
      have hu12:Up n5 w9 w12:=⟨Nat.le_trans HUr.out.1 hs12,fun k hk hl => (hkeep k (by have:=HUr.out.1; omega) (hlow k (by have:=HM0.out; omega))).trans (HUr.out.2 k hk hl)⟩
      have hbe12:Below w.heap.size w w12:=⟨hb12.os.trans HBr.out.os,hb12.tape.trans HBr.out.tape,hb12.output.trans HBr.out.output,Nat.le_trans HBr.out.size hs12,fun k hk => (hkeep k (by have:=HBr.out.size; omega) (hlow k (by omega))).trans (HBr.out.block k hk)⟩
      have HGE:Hid ((gs ++ [(⟨⟨mp,mr,mt,mh⟩,b1,k1,b2,k2⟩:GX)]).length = j + 1):=by show _ = _; rw [List.length_append,HGL.out]; rfl
      have HQE:Hid ((gs ++ [(⟨⟨mp,mr,mt,mh⟩,b1,k1,b2,k2⟩:GX)]).map GX.x ++ (mapsV (namesR Y.1) (l.drop (j + 1))).1 = Z.1 ∧ (mapsV (namesR Y.1) (l.drop (j + 1))).2 = Z.2):=by
       have h1:=HQr.out
       rw [HST2.out] at h1
       refine ⟨?_,h1.2⟩
       rw [List.map_append,List.append_assoc]
       exact h1.1
      obtain ⟨m0,m1,mf⟩:=b2c HM12.out
      have HPE:Hid (PI (b + 1) (w12.setCell ⟨b,1,none⟩ (.slice (some ⟨g9,0,none⟩) (j + 1) p9)) o B V x' s3):=hp12.low (by omega) _ _
      have HRE:Hid (BlkAt (w12.setCell ⟨b,1,none⟩ (.slice (some ⟨g9,0,none⟩) (j + 1) p9)) (w.heap.size + 1) 25 #[.slice none 0 0,.slice none 0 0]):=HR12.out.set_far (by omega) _ _
      have HME:Hid (BlkAt (w12.setCell ⟨b,1,none⟩ (.slice (some ⟨g9,0,none⟩) (j + 1) p9)) b 25 #[.slice ra rs.length rc,.slice (some ⟨g9,0,none⟩) (j + 1) p9]):=HM12.out.set 1 _
      have HOE:Hid (MapsOwn (w12.setCell ⟨b,1,none⟩ (.slice (some ⟨g9,0,none⟩) (j + 1) p9)) M0 (.slice (some ⟨g9,0,none⟩) (j + 1) p9) (gs ++ [⟨⟨mp,mr,mt,mh⟩,b1,k1,b2,k2⟩])):=hsn.up ((Up.of_below (Below.refl _ _)).set (by omega) _ _)
      have HUE:Hid (Up n5 w9 (w12.setCell ⟨b,1,none⟩ (.slice (some ⟨g9,0,none⟩) (j + 1) p9))):=hu12.set hbz _ _
      have HBE:Hid (Below w.heap.size w (w12.setCell ⟨b,1,none⟩ (.slice (some ⟨g9,0,none⟩) (j + 1) p9))):=bel_set hbe12 (p:=⟨b,1,none⟩) (by show w.heap.size ≤ b; omega) _
      have hME:M0 ≤ (w12.setCell ⟨b,1,none⟩ (.slice (some ⟨g9,0,none⟩) (j + 1) p9)).heap.size:=by rw [setCell_size]; omega
      clear hown12 hgrow12 hat12 hlow hkeep hb12 HM12 HR12 hp12 hsn hu12 hbe12 HPr HRr HMr HOr HKr HUr HBr HQr HT11 HM11 HSP HSR HNC HONE HMX HOR t0 t1 t2 t3 tf
      go_wp2_with fail
      exact ⟨⟨j + 1,_,some ⟨g9,0,none⟩,p9,by omega,by go_num,hME,HGE,HPE,HRE,HME,HOE,HKE,HUE,HBE,HQE⟩,by simp [intOf]; omega⟩
     ·have hst:=HST.out
      rw [hbad] at hst
      simp only at hst
      have hq:=HQr.out
      rw [hst] at hq
      have hz1:gs.map GX.x = Z.1:=by rw [← hq.1]; simp
      have hz2:er = Z.2:=hq.2
      have heb:(er != 0) = true:=bne_iff_ne.2 hne
      obtain ⟨w11,hw11⟩:∃ z,z = w10.alloc (.cells #[.slice none 0 0,.slice none 0 0,.bool false,.int .i64 0] 58):=⟨_,rfl⟩
      have hb11:Below w10.heap.size w10 w11:=by rw [hw11]; exact bel_alloc (Below.refl _ _) _
      have hbb:=below_more (below_more HBA.out hb10) hb11
      have HFL:=Lib.hid ((HPr.out.keep hbb).fail er)
      rw [hz2,HS4.out,← hz2] at HFL
      have HM11:=Lib.hid (HMr.out.keep hbb)
      have HR11:=Lib.hid (HRr.out.keep hbb)
      have HO11:=Lib.hid (HOr.out.keep hbb)
      have HU11:=Lib.hid (HUr.out.trans (Up.of_below hbb))
      have HB11:=Lib.hid (below_more HBr.out hbb)
      have HZ1':=Lib.hid hz1
      have HW11:=Lib.hid hw11
      clear hst hq hz1 hz2 hw11 hb11 hbb hb10 hbad hne HPr HRr HMr HOr HUr HBr HQr
      go_wp2_with fail
      rw [← HW11.out]
      refine HFL.out.mono ?_
      rintro e wt ⟨rfl,hpt,hsept⟩
      have HRT:=Lib.hid (blk_sep HR11.out hsept (by omega) (by omega))
      have HMT:=Lib.hid (blk_sep HM11.out hsept (by omega) (by omega))
      have HBT:Hid (Below w.heap.size w wt):=hsept.below HB11.out (by omega) (fun k hk => by have:=Option.some.inj hk; omega)
      have HOT:=Lib.hid (HO11.out.up ((Up.of_sep hsept (show o < M0 by omega) (by omega))))
      have HROT:=Lib.hid ((HRO9.out.up HU11.out).up (Up.of_sep hsept ho5 hB5))
      have HDN:=Lib.hid (hpt.done HF4.out)
      clear HFL HR11 HM11 HB11 HO11 HU11 hpt hsept
      go_wp2_with fail
      refine HDN.out.mono ?_
      rintro e w15 ⟨rfl,hb15⟩
      obtain ⟨r0,r1,rf⟩:=b2c (HRT.out.keep hb15)
      obtain ⟨m0,m1,mf⟩:=b2c (HMT.out.keep hb15)
      have HB15:=Lib.hid (below_more HBT.out hb15)
      have HO15:=Lib.hid (HOT.out.keep hb15)
      have HRO15:=Lib.hid (HROT.out.keep hb15)
      obtain ⟨dq,hdq⟩:∃ q,doneQ V s4 = q:=⟨_,rfl⟩
      have hr:=HR.out
      rw [hdq] at hr ⊢
      clear HDN HRT HMT HBT HOT HROT hb15 hdq
      by_cases hd:dq = 0
      ·subst hd
       rw [if_neg (by simp)] at hr
       have HRR:=Lib.hid hr
       clear hr
       go_wp2_with fail
       refine bodyPost_ret (v:=.tuple #[.agg #[.slice ra rs.length rc,.slice va j vc],.int .i64 0]) (by simp [results,Tryz.results10,go_sem,r0,r1]) rfl (cgen_mk (R:=.ok ⟨Y.1,Z.1⟩) HMB.out HCL.out HCT.out (by rw [HVE.out]; exact HR0.out.trans HRR.out.symm) ⟨bel_set (bel_set HB15.out (Nat.le_succ _) _) (Nat.le_succ _) _,ra,rc,va,vc,rs,gs,M0,by rw [HGL.out],by omega,?_,HRL.out,?_,HRS.out,HZ1'.out,HKr.out⟩)
       ·exact (HRO15.out.up (((Up.of_below (Below.refl _ _)).set (show w.heap.size + 1 < n5 by omega) _ _).set (show w.heap.size + 1 < n5 by omega) _ _)).lows (by omega)
       ·rw [HGL.out]
        exact HO15.out.up (((Up.of_below (Below.refl _ _)).set (show w.heap.size + 1 < M0 by omega) _ _).set (show w.heap.size + 1 < M0 by omega) _ _)
      ·rw [if_pos hd] at hr
       have hdb:(dq != 0) = true:=bne_iff_ne.2 hd
       have HD:=Lib.hid hd
       have HRR:=Lib.hid hr
       clear hr hd
       go_wp2_with fail
       exact bodyPost_ret (v:=.tuple #[.agg #[.slice none 0 0,.slice none 0 0],.int .i64 dq]) (by simp [results,Tryz.results10,go_sem,r0,r1]) rfl (cgen_mk (R:=.bad dq) HMB.out HCL.out HCT.out (by rw [HVE.out]; exact HR0.out.trans HRR.out.symm) ⟨bel_set (bel_set HB15.out (Nat.le_succ _) _) (Nat.le_succ _) _,rfl,HD.out⟩)
    ·have hi1:¬ (j:Int) < (n:Int):=by omega
     obtain rfl:j = n:=by omega
     have hq:=HQr.out
     rw [List.drop_of_length_le (by rw [HN.out]; exact Nat.le_refl _)] at hq
     have hnil:∀ R,mapsV R [] = ([],0):=fun R => by unfold mapsV; rfl
     rw [hnil,List.append_nil] at hq
     have HZ1':Hid (gs.map GX.x = Z.1):=hq.1
     have hz2:Z.2 = 0:=hq.2.symm
     clear hnil
     have hs4:s3 = s4:=by
      rw [← HS4.out,hz2]
      cases s3 with
      | bad e => rfl
      | ok A => rw [failQ,if_pos rfl]
     have HDN:=Lib.hid ((hs4 ▸ HPr.out:PI (b + 1) wr o B V x' s4).done HF4.out)
     obtain ⟨wt,rfl⟩:∃ y,y = wr:=⟨wr,rfl⟩
     have HRT:=HRr
     have HMT:=HMr
     have HBT:=HBr
     have HOT:=HOr
     have HROT:=Lib.hid (HRO9.out.up HUr.out)
     clear hq hz2 hs4 HPr HRr HMr HOr HUr HBr HQr
     go_wp2_with fail
     refine HDN.out.mono ?_
     rintro e w15 ⟨rfl,hb15⟩
     obtain ⟨r0,r1,rf⟩:=b2c (HRT.out.keep hb15)
     obtain ⟨m0,m1,mf⟩:=b2c (HMT.out.keep hb15)
     have HB15:=Lib.hid (below_more HBT.out hb15)
     have HO15:=Lib.hid (HOT.out.keep hb15)
     have HRO15:=Lib.hid (HROT.out.keep hb15)
     obtain ⟨dq,hdq⟩:∃ q,doneQ V s4 = q:=⟨_,rfl⟩
     have hr:=HR.out
     rw [hdq] at hr ⊢
     clear HDN HRT HMT HBT HOT HROT hb15 hdq
     by_cases hd:dq = 0
     ·subst hd
      rw [if_neg (by simp)] at hr
      have HRR:=Lib.hid hr
      clear hr
      go_wp2_with fail
      refine bodyPost_ret (v:=.tuple #[.agg #[.slice ra rs.length rc,.slice va j vc],.int .i64 0]) (by simp [results,Tryz.results10,go_sem,r0,r1]) rfl (cgen_mk (R:=.ok ⟨Y.1,Z.1⟩) HMB.out HCL.out HCT.out (by rw [HVE.out]; exact HR0.out.trans HRR.out.symm) ⟨bel_set (bel_set HB15.out (Nat.le_succ _) _) (Nat.le_succ _) _,ra,rc,va,vc,rs,gs,M0,by rw [HGL.out],by omega,?_,HRL.out,?_,HRS.out,HZ1'.out,HKr.out⟩)
      ·exact (HRO15.out.up (((Up.of_below (Below.refl _ _)).set (show w.heap.size + 1 < n5 by omega) _ _).set (show w.heap.size + 1 < n5 by omega) _ _)).lows (by omega)
      ·rw [HGL.out]
       exact HO15.out.up (((Up.of_below (Below.refl _ _)).set (show w.heap.size + 1 < M0 by omega) _ _).set (show w.heap.size + 1 < M0 by omega) _ _)
     ·rw [if_pos hd] at hr
      have hdb:(dq != 0) = true:=bne_iff_ne.2 hd
      have HD:=Lib.hid hd
      have HRR:=Lib.hid hr
      clear hr hd
      go_wp2_with fail
      exact bodyPost_ret (v:=.tuple #[.agg #[.slice none 0 0,.slice none 0 0],.int .i64 dq]) (by simp [results,Tryz.results10,go_sem,r0,r1]) rfl (cgen_mk (R:=.bad dq) HMB.out HCL.out HCT.out (by rw [HVE.out]; exact HR0.out.trans HRR.out.symm) ⟨bel_set (bel_set HB15.out (Nat.le_succ _) _) (Nat.le_succ _) _,rfl,HD.out⟩)
theorem cOf_some (V:JV) (x:VC) (w:World) (h:ValAt w V x.val) (hl:Live w (.slice x.b x.m x.e) V.items) (hi:ItemsAt w (.slice x.b x.m x.e) V.items) :
 Calls Tryz.prog 10 #[x.val] w fun e w' => ∃ R,(R = chartV V ∨ ∃ er,R = .bad er) ∧ MapPost R w e w':=by
 refine (cOf_gen (fun _ => True) V x w h fun hm W hb => (pOf_some V x W (h.keep hb) (hl.keep hi hb) (may_fit hm) (wt_may hm)).mono fun e w' ⟨l,hc,hp⟩ => ⟨l,trivial,hc,hp⟩).mono fun e w' hg => ?_
 rcases hg with ⟨-,hp⟩ | ⟨hm,l,-,hc,hp⟩
 ·exact ⟨_,Or.inr ⟨3,rfl⟩,hp⟩
 ·rcases chartE_cut hc with e1 | ⟨er,e1⟩
  ·exact ⟨_,Or.inl (e1.trans (chartV_E hm).symm),hp⟩
  ·exact ⟨_,Or.inr ⟨er,e1⟩,hp⟩
end

section
open Go.RowKit
def LB (a b:ByteArray):Prop:=Op.bytesLess a.data.toList b.data.toList = true
theorem asc_eq:∀ (l m:List ByteArray),l.Pairwise LB → m.Pairwise LB → (∀ s ∈ l,s ∈ m) → (∀ s ∈ m,s ∈ l) → l = m
 | [],[],_,_,_,_ => rfl
 | [],y :: m,_,_,_,h4 => by cases h4 y List.mem_cons_self
 | x :: l,[],_,_,h3,_ => by cases h3 x List.mem_cons_self
 | x :: l,y :: m,h1,h2,h3,h4 => by
   obtain ⟨hx,p1⟩:=List.pairwise_cons.1 h1
   obtain ⟨hy,p2⟩:=List.pairwise_cons.1 h2
   have e:x = y:=by
    rcases List.mem_cons.1 (h3 x List.mem_cons_self) with e | hxm
    ·exact e
    ·rcases List.mem_cons.1 (h4 y List.mem_cons_self) with e | hyl
     ·exact e.symm
     ·have a:=hx y hyl
      have b:=bl_asymm (hy x hxm)
      unfold LB at a
      rw [b] at a
      cases a
   subst e
   congr 1
   refine asc_eq l m p1 p2 (fun s hs => ?_) (fun s hs => ?_)
   ·rcases List.mem_cons.1 (h3 s (List.mem_cons_of_mem _ hs)) with rfl | h
    ·have a:=hx s hs
     unfold LB at a
     rw [bl_irrefl] at a
     cases a
    ·exact h
   ·rcases List.mem_cons.1 (h4 s (List.mem_cons_of_mem _ hs)) with rfl | h
    ·have a:=hy s hs
     unfold LB at a
     rw [bl_irrefl] at a
     cases a
    ·exact h
theorem bytes_same {s t:ByteArray} (h:s.data.toList = t.data.toList):s = t:=by
 cases s; cases t; simp_all
theorem getN_some:∀ {ns:List ByteArray} {xs:List JV} {n:ByteArray} {y:JV},getN ns xs n = some y → n ∈ ns
 | [],_,_,_,h => by cases h
 | _ :: _,[],_,_,h => by cases h
 | s :: ns,x :: xs,n,y,h => by
   rw [getN] at h
   split at h
   ·next e => rw [bytes_same e]; exact List.mem_cons_self
   ·exact List.mem_cons_of_mem _ (getN_some h)
/-! What was asked for. -/
theorem take_inv {V:JV} {n:ByteArray} {k:Int} {s:PS} {R:Option JV} {A:List ByteArray} (h:takeQ V n k s = (R,.ok A)):∃ B y,s = .ok B ∧ A = B ++ [n] ∧ R = some y ∧ getN V.names V.items n = some y ∧ y.k = k:=by
 cases s with
 | bad e => rw [takeQ] at h; cases h
 | ok B =>
   rw [takeQ] at h
   cases hg:getN V.names V.items n with
   | none => rw [hg] at h; cases h
   | some y =>
     rw [hg] at h
     simp only at h
     split at h
     ·next e => cases h; exact ⟨B,y,rfl,rfl,rfl,rfl,e⟩
     ·cases h
theorem fail_inv {e:Int} {s:PS} {A:List ByteArray} (h:failQ e s = .ok A):s = .ok A ∧ e = 0:=by
 cases s with
 | bad e' => cases h
 | ok B =>
   rw [failQ] at h
   split at h
   ·next e0 => exact ⟨h,e0⟩
   ·cases h
theorem take_none {V:JV} {n:ByteArray} {k:Int} {s s':PS} {A:List ByteArray} (h:takeQ V n k s = (none,s')) (h':s' = .ok A):False:=by
 subst h'
 obtain ⟨_,_,_,_,e,_⟩:=take_inv h
 cases e
theorem texts_inv {V:JV} {n:ByteArray} {m:Nat} {s:PS} {l:List ByteArray} {A:List ByteArray} (h:textsQ V n m s = (l,.ok A)):∃ B y,s = .ok B ∧ A = B ++ [n] ∧ getN V.names V.items n = some y ∧ y.k = 4 ∧ y.items.length ≤ m ∧ (∀ z ∈ y.items,z.k = 3) ∧ l = y.items.map JV.t:=by
 unfold textsQ at h
 obtain ⟨R,s1,hR⟩:∃ R s1,takeQ V n 4 s = (R,s1):=⟨_,_,rfl⟩
 rw [hR] at h
 cases R with
 | none => cases h; exact (take_none hR rfl).elim
 | some x =>
   simp only at h
   split at h
   ·cases h
   ·next hm =>
    split at h
    ·next ha =>
     cases h
     obtain ⟨B,y,e1,e2,e3,e4,e5⟩:=take_inv hR
     cases e3
     exact ⟨B,x,e1,e2,e4,e5,by omega,fun z hz => of_decide_eq_true (List.all_eq_true.1 ha z hz),rfl⟩
    ·cases h
theorem bool_inv {V:JV} {n:ByteArray} {s:PS} {b:Bool} {A:List ByteArray} (h:boolQ V n s = (b,.ok A)):∃ B y,s = .ok B ∧ A = B ++ [n] ∧ getN V.names V.items n = some y ∧ y.k = 1 ∧ b = decide (y.n = 1):=by
 unfold boolQ at h
 obtain ⟨R,s1,hR⟩:∃ R s1,takeQ V n 1 s = (R,s1):=⟨_,_,rfl⟩
 rw [hR] at h
 cases R with
 | none => cases h; exact (take_none hR rfl).elim
 | some x =>
   cases h
   obtain ⟨B,y,e1,e2,e3,e4,e5⟩:=take_inv hR
   cases e3
   exact ⟨B,x,e1,e2,e4,e5,rfl⟩
theorem num_inv {V:JV} {n:ByteArray} {lo hi:Int} {s:PS} {t:Int} {A:List ByteArray} (h:numQ V n lo hi s = (t,.ok A)):∃ B y,s = .ok B ∧ A = B ++ [n] ∧ getN V.names V.items n = some y ∧ y.k = 2 ∧ t = y.n ∧ lo ≤ t ∧ t ≤ hi:=by
 unfold numQ at h
 obtain ⟨R,s1,hR⟩:∃ R s1,takeQ V n 2 s = (R,s1):=⟨_,_,rfl⟩
 rw [hR] at h
 cases R with
 | none => cases h; exact (take_none hR rfl).elim
 | some x =>
   simp only at h
   split at h
   ·cases h
   ·next hm =>
    cases h
    obtain ⟨B,y,e1,e2,e3,e4,e5⟩:=take_inv hR
    cases e3
    exact ⟨B,x,e1,e2,e4,e5,rfl,by omega,by omega⟩
theorem obj_inv {V X:JV} {n:ByteArray} {m:Nat} {s:PS} {A:List ByteArray} (h:objQ V n m s = (X,.ok A)):∃ B,s = .ok B ∧ A = B ++ [n] ∧ getN V.names V.items n = some X ∧ X.k = 5 ∧ X.items.length ≤ m:=by
 unfold objQ at h
 obtain ⟨R,s1,hR⟩:∃ R s1,takeQ V n 5 s = (R,s1):=⟨_,_,rfl⟩
 rw [hR] at h
 cases R with
 | none => cases h; exact (take_none hR rfl).elim
 | some x =>
   simp only at h
   split at h
   ·cases h
   ·next hm =>
    cases h
    obtain ⟨B,y,e1,e2,e3,e4,e5⟩:=take_inv hR
    cases e3
    exact ⟨B,e1,e2,e4,e5,by omega⟩
theorem list_inv {V:JV} {l:List JV} {n:ByteArray} {m:Nat} {s:PS} {A:List ByteArray} (h:listQ V n m s = (l,.ok A)):∃ B y,s = .ok B ∧ A = B ++ [n] ∧ getN V.names V.items n = some y ∧ y.k = 4 ∧ l = y.items ∧ l.length ≤ m:=by
 unfold listQ at h
 obtain ⟨R,s1,hR⟩:∃ R s1,takeQ V n 4 s = (R,s1):=⟨_,_,rfl⟩
 rw [hR] at h
 cases R with
 | none => cases h; exact (take_none hR rfl).elim
 | some x =>
   simp only at h
   split at h
   ·cases h
   ·next hm =>
    cases h
    obtain ⟨B,y,e1,e2,e3,e4,e5⟩:=take_inv hR
    cases e3
    exact ⟨B,x,e1,e2,e4,e5,rfl,by omega⟩
/-! A picker that stopped did so for some reason. -/
def NZ (s:PS):Prop:=∀ e,s = .bad e → e ≠ 0
theorem nz_pick (V:JV):NZ (pickQ V):=fun e h => by
 unfold pickQ at h
 split at h <;> cases h
 decide
theorem nz_fail {s:PS} (h:NZ s) (e:Int):NZ (failQ e s):=fun e' h' => by
 cases s with
 | bad e1 => cases h'; exact h _ rfl
 | ok A =>
   rw [failQ] at h'
   split at h'
   ·cases h'
   ·next hne => cases h'; exact hne
theorem nz_take {V:JV} {n:ByteArray} {k:Int} {s:PS} (h:NZ s):NZ (takeQ V n k s).2:=fun e h' => by
 cases s with
 | bad e1 => rw [takeQ] at h'; cases h'; exact h _ rfl
 | ok A =>
   rw [takeQ] at h'
   split at h'
   ·cases h'; decide
   ·split at h' <;> cases h'
    decide
theorem nz_texts {V:JV} {n:ByteArray} {m:Nat} {s:PS} (h:NZ s):NZ (textsQ V n m s).2:=fun e h' => by
 unfold textsQ at h'
 obtain ⟨R,s1,hR⟩:∃ R s1,takeQ V n 4 s = (R,s1):=⟨_,_,rfl⟩
 have h1:NZ s1:=by have:=nz_take (V:=V) (n:=n) (k:=4) h; rw [hR] at this; exact this
 rw [hR] at h'
 cases R with
 | none => exact h1 _ h'
 | some x =>
   simp only at h'
   split at h'
   ·cases h'; decide
   ·split at h'
    ·exact h1 _ h'
    ·cases h'; decide
theorem nz_bool {V:JV} {n:ByteArray} {s:PS} (h:NZ s):NZ (boolQ V n s).2:=fun e h' => by
 unfold boolQ at h'
 obtain ⟨R,s1,hR⟩:∃ R s1,takeQ V n 1 s = (R,s1):=⟨_,_,rfl⟩
 have h1:NZ s1:=by have:=nz_take (V:=V) (n:=n) (k:=1) h; rw [hR] at this; exact this
 rw [hR] at h'
 cases R <;> exact h1 _ h'
theorem nz_num {V:JV} {n:ByteArray} {lo hi:Int} {s:PS} (h:NZ s):NZ (numQ V n lo hi s).2:=fun e h' => by
 unfold numQ at h'
 obtain ⟨R,s1,hR⟩:∃ R s1,takeQ V n 2 s = (R,s1):=⟨_,_,rfl⟩
 have h1:NZ s1:=by have:=nz_take (V:=V) (n:=n) (k:=2) h; rw [hR] at this; exact this
 rw [hR] at h'
 cases R with
 | none => exact h1 _ h'
 | some x =>
   simp only at h'
   split at h'
   ·cases h'; decide
   ·exact h1 _ h'
theorem nz_obj {V:JV} {n:ByteArray} {m:Nat} {s:PS} (h:NZ s):NZ (objQ V n m s).2:=fun e h' => by
 unfold objQ at h'
 obtain ⟨R,s1,hR⟩:∃ R s1,takeQ V n 5 s = (R,s1):=⟨_,_,rfl⟩
 have h1:NZ s1:=by have:=nz_take (V:=V) (n:=n) (k:=5) h; rw [hR] at this; exact this
 rw [hR] at h'
 cases R with
 | none => exact h1 _ h'
 | some x =>
   simp only at h'
   split at h'
   ·cases h'; decide
   ·exact h1 _ h'
theorem nz_list {V:JV} {n:ByteArray} {m:Nat} {s:PS} (h:NZ s):NZ (listQ V n m s).2:=fun e h' => by
 unfold listQ at h'
 obtain ⟨R,s1,hR⟩:∃ R s1,takeQ V n 4 s = (R,s1):=⟨_,_,rfl⟩
 have h1:NZ s1:=by have:=nz_take (V:=V) (n:=n) (k:=4) h; rw [hR] at this; exact this
 rw [hR] at h'
 cases R with
 | none => exact h1 _ h'
 | some x =>
   simp only at h'
   split at h'
   ·cases h'; decide
   ·exact h1 _ h'
theorem done_inv {V:JV} {s:PS} (h:doneQ V s = 0) (hz:NZ s):∃ A,s = .ok A ∧ ∀ n ∈ V.names,n ∈ A:=by
 cases s with
 | bad e => exact absurd h (hz e rfl)
 | ok A =>
   refine ⟨A,rfl,fun n hn => ?_⟩
   rw [doneQ] at h
   split at h
   ·next ha =>
    unfold allAsked at ha
    have h1:=List.all_eq_true.1 ha n hn
    obtain ⟨a,ha1,ha2⟩:=List.any_eq_true.1 h1
    rw [bytes_same (beq_iff_eq.1 ha2)] at ha1
    exact ha1
   ·cases h
/-! What a value that may be has, by its kind. -/
theorem toList_nil {t:ByteArray} (h:t.toList = []):t = ⟨#[]⟩:=bytes_same (by rw [← toList_data,h])
theorem may_parts {V:JV} (h:mayB V = true):(V.k = 1 → V = boolJ (decide (V.n = 1))) ∧ (V.k = 2 → V = numJ V.n) ∧ (V.k = 3 → V = textJ V.t ∧ writ V.t = true) ∧ (V.k = 4 → V = listJ V.items) ∧ (V.k = 5 → V = .mk 5 0 ⟨#[]⟩ V.names V.items):=by
 obtain ⟨a,-,-⟩:=(mayB_iff V).1 h
 rw [goodV_eq,Bool.and_eq_true] at a
 have hp:=a.1
 cases V with
 | mk k n t names items =>
   rw [properB] at hp
   split at hp
   ·cases hp
   ·next h1 =>
    split at hp
    ·cases hp
    ·next h2 =>
     have hn:¬ (k = 1 ∨ k = 2) → n = 0:=fun hk => Classical.byContradiction fun hne => h1 (Or.inl ⟨fun e => hk (Or.inl e),fun e => hk (Or.inr e),hne⟩)
     have ht:k ≠ 3 → t = ⟨#[]⟩:=fun hk => toList_nil (Classical.byContradiction fun hne => h1 (Or.inr ⟨hk,hne⟩))
     have hns:k ≠ 5 → names = []:=fun hk => List.eq_nil_of_length_eq_zero (Classical.byContradiction fun hne => h2 (Or.inl ⟨hk,by omega⟩))
     have hit:k ≠ 5 → k ≠ 4 → items = []:=fun hk hk' => List.eq_nil_of_length_eq_zero (Classical.byContradiction fun hne => h2 (Or.inr ⟨hk,hk',by omega⟩))
     refine ⟨fun hk => ?_,fun hk => ?_,fun hk => ?_,fun hk => ?_,fun hk => ?_⟩
     ·have hk:k = 1:=hk
      subst hk
      rw [if_pos rfl] at hp
      rw [ht (by decide),hns (by decide),hit (by decide) (by decide)]
      show _ = boolJ (decide (n = 1))
      rw [Bool.or_eq_true,decide_eq_true_eq,decide_eq_true_eq] at hp
      rcases hp with rfl | rfl <;> rfl
     ·have hk:k = 2:=hk
      subst hk
      rw [ht (by decide),hns (by decide),hit (by decide) (by decide)]
      rfl
     ·have hk:k = 3:=hk
      subst hk
      rw [if_neg (by decide),if_neg (by decide),if_pos rfl] at hp
      rw [hn (by decide),hns (by decide),hit (by decide) (by decide)]
      exact ⟨rfl,hp⟩
     ·have hk:k = 4:=hk
      subst hk
      rw [hn (by decide),ht (by decide),hns (by decide)]
      rfl
     ·have hk:k = 5:=hk
      subst hk
      rw [hn (by decide),ht (by decide)]
      rfl
theorem may_asc {V:JV} (h:mayB V = true) (hk:V.k = 5):V.names.length = V.items.length ∧ V.names.Pairwise LB:=by
 obtain ⟨h1,h2⟩:=may_fit h hk
 exact ⟨h1,asc_pairsX h2⟩
theorem texts_back {y:JV} (h:mayB y = true) (hk:y.k = 4) (ht:∀ z ∈ y.items,z.k = 3):y = textsJ (y.items.map JV.t) ∧ ∀ s ∈ y.items.map JV.t,writ s = true:=by
 have hz:∀ z ∈ y.items,z = textJ z.t ∧ writ z.t = true:=fun z hz => (may_parts (may_item h (Or.inl hk) hz)).2.2.1 (ht z hz)
 refine ⟨?_,fun s hs => ?_⟩
 ·have e:=(may_parts h).2.2.2.1 hk
  rw [textsJ,List.map_map]
  have:y.items.map (textJ ∘ JV.t) = y.items:=by
   conv => rhs; rw [← List.map_id y.items]
   exact List.map_congr_left fun z hm => (hz z hm).1.symm
  rw [this]
  exact e
 ·obtain ⟨z,hm,rfl⟩:=List.mem_map.1 hs
  exact (hz z hm).2
theorem four_names:[tPaths,tRepos,tTerm,tThr].Pairwise LB:=asc_pairsX (by kernel_rfl)
theorem two_names:[tMapping,tRepos].Pairwise LB:=asc_pairsX (by kernel_rfl)
theorem mapping_backV {V:JV} {R:List ByteArray} {m:MapgP} (hm:mayB V = true) (h:mappingV V R = .ok m):V = mapgJ m ∧ wrongV m R = 0:=by
 obtain ⟨p,s1,hs1⟩:∃ p s1,textsQ V tPaths 32 (pickQ V) = (p,s1):=⟨_,_,rfl⟩
 obtain ⟨r,s3,hs3⟩:∃ q s2,textsQ V tRepos 8 (failQ (wrongPathsV p) s1) = (q,s2):=⟨_,_,rfl⟩
 obtain ⟨tb,s5,hs5⟩:∃ q s2,boolQ V tTerm (failQ (wrongReposV r R) s3) = (q,s2):=⟨_,_,rfl⟩
 obtain ⟨tn,s6,hs6⟩:∃ q s2,numQ V tThr 1 r.length s5 = (q,s2):=⟨_,_,rfl⟩
 have z1:NZ s1:=by have:=nz_texts (V:=V) (n:=tPaths) (m:=32) (nz_pick V); rw [hs1] at this; exact this
 have z3:NZ s3:=by have:=nz_texts (V:=V) (n:=tRepos) (m:=8) (nz_fail z1 (wrongPathsV p)); rw [hs3] at this; exact this
 have z5:NZ s5:=by have:=nz_bool (V:=V) (n:=tTerm) (nz_fail z3 (wrongReposV r R)); rw [hs5] at this; exact this
 have z6:NZ s6:=by have:=nz_num (V:=V) (n:=tThr) (lo:=1) (hi:=r.length) z5; rw [hs6] at this; exact this
 unfold mappingV at h
 simp only [hs1,hs3,hs5,hs6] at h
 split at h
 ·cases h
 ·next hd =>
  cases h
  obtain ⟨A,rfl,hall⟩:=done_inv (Classical.not_not.1 hd) z6
  obtain ⟨B4,y4,rfl,rfl,g4,k4,e4,l4,u4⟩:=num_inv hs6
  obtain ⟨B3,y3,hB3,rfl,g3,k3,e3⟩:=bool_inv hs5
  obtain ⟨rfl,w2⟩:=fail_inv hB3
  obtain ⟨B2,y2,hB2,rfl,g2,k2,m2,t2,e2⟩:=texts_inv hs3
  obtain ⟨rfl,w1⟩:=fail_inv hB2
  obtain ⟨B1,y1,hB1,rfl,g1,k1,m1,t1,e1⟩:=texts_inv hs1
  obtain ⟨h5,rfl⟩:=pick_ok hB1
  obtain ⟨hlen,hasc⟩:=may_asc hm h5
  have hnames:V.names = [tPaths,tRepos,tTerm,tThr]:=by
   refine asc_eq _ _ hasc four_names (fun s hs => by simpa using hall s hs) (fun s hs => ?_)
   simp only [List.mem_cons,List.not_mem_nil,or_false] at hs
   rcases hs with rfl | rfl | rfl | rfl
   ·exact getN_some g1
   ·exact getN_some g2
   ·exact getN_some g3
   ·exact getN_some g4
  have hV:=(may_parts hm).2.2.2.2 h5
  rw [hnames] at hlen g1 g2 g3 g4
  match hi:V.items,hlen with
  | [a1,a2,a3,a4],_ =>
    rw [hi] at g1 g2 g3 g4
    have n1:¬ tPaths.data.toList = tRepos.data.toList:=by decide
    have n2:¬ tPaths.data.toList = tTerm.data.toList:=by decide
    have n3:¬ tRepos.data.toList = tTerm.data.toList:=by decide
    have n4:¬ tPaths.data.toList = tThr.data.toList:=by decide
    have n5:¬ tRepos.data.toList = tThr.data.toList:=by decide
    have n6:¬ tTerm.data.toList = tThr.data.toList:=by decide
    simp only [getN,n1,n2,n3,n4,n5,n6,if_true,if_false,Option.some.injEq] at g1 g2 g3 g4
    subst g1 g2 g3 g4
    have mi:∀ z ∈ V.items,mayB z = true:=fun z hz => may_item hm (Or.inr h5) hz
    rw [hi] at mi
    have q1:=(texts_back (mi a1 (by simp)) k1 t1).1
    have q2:=(texts_back (mi a2 (by simp)) k2 t2).1
    have q3:=(may_parts (mi a3 (by simp))).1 k3
    have q4:=(may_parts (mi a4 (by simp))).2.1 k4
    refine ⟨?_,?_⟩
    ·rw [hV,hnames,hi,mapgJ]
     simp only
     rw [e1,e2,e3,e4,← q1,← q2,← q3,← q4]
    ·unfold wrongV
     simp only
     rw [if_neg (by rw [w1]; decide),if_neg (by rw [w2]; decide),if_neg (by omega)]
theorem repoGo_back:∀ (ns:List ByteArray) (xs:List JV) (l:List RepoP),ns.length = xs.length → (∀ x ∈ xs,mayB x = true) → repoGo ns xs = (l,0) → namesR l = ns ∧ xs = l.map (fun r => textsJ r.2) ∧ ∀ r ∈ l,roleB r.1 = true ∧ urlsB r.2 = true
 | [],[],l,_,_,h => by rw [repoGo] at h; cases h; exact ⟨rfl,rfl,by simp⟩; all_goals simp
 | [],_ :: _,_,h,_,_ => by simp at h
 | _ :: _,[],_,h,_,_ => by simp at h
 | n :: ns,x :: xs,l,hl,hm,h => by
   rw [repoGo] at h
   split at h
   ·cases h
   ·next h1 =>
    split at h
    ·cases h
    ·next h2 =>
     split at h
     ·cases h
     ·next h3 =>
      split at h
      ·cases h
      ·next h4 =>
       split at h
       ·next h5 =>
        obtain ⟨l2,e2⟩:∃ l2,repoGo ns xs = (l2,0):=⟨_,Prod.ext rfl h5⟩
        obtain ⟨a,b,c⟩:=repoGo_back ns xs l2 (by simpa using hl) (fun y hy => hm y (List.mem_cons_of_mem _ hy)) e2
        rw [e2] at h
        cases h
        have hk:x.k = 4:=Classical.not_not.1 h2
        have h6:x.items.all (fun y => decide (y.k = 3)) = true:=by simpa using h4
        have hall:∀ z ∈ x.items,z.k = 3:=fun z hz => of_decide_eq_true (List.all_eq_true.1 h6 z hz)
        obtain ⟨q1,q2⟩:=texts_back (hm x List.mem_cons_self) hk hall
        refine ⟨?_,?_,fun r hr => ?_⟩
        ·rw [namesR,List.map_cons]
         exact congrArg (n :: ·) a
        ·rw [List.map_cons,← b]
         exact congrArg (·:: xs) q1
        ·rcases List.mem_cons.1 hr with rfl | hr
         ·refine ⟨by simpa using h1,?_⟩
          unfold urlsB
          rw [Bool.and_eq_true,decide_eq_true_eq]
          exact ⟨by simp only [List.length_map]; omega,List.all_eq_true.2 q2⟩
         ·exact c r hr
       ·next h5 =>
        simp only [Prod.mk.injEq] at h
        exact absurd h.2 h5
theorem mapping_nz {V:JV} {R:List ByteArray} {e:Int} (h:mappingV V R = .bad e):e ≠ 0:=by
 unfold mappingV at h
 simp only at h
 split at h
 ·next hd => cases h; exact hd
 ·cases h
attribute [local irreducible] mappingV in
theorem maps_backV (R:List ByteArray):∀ (l:List JV) (ms:List MapgP),(∀ x ∈ l,mayB x = true) → mapsV R l = (ms,0) → l = ms.map mapgJ ∧ ∀ m ∈ ms,wrongV m R = 0
 | [],ms,_,h => by unfold mapsV at h; cases h; exact ⟨rfl,by simp⟩
 | x :: l,ms,hm,h => by
   unfold mapsV at h
   cases hv:mappingV x R with
   | bad e =>
     rw [hv] at h
     simp only [Prod.mk.injEq] at h
     exact absurd h.2 (mapping_nz hv)
   | ok m =>
     rw [hv] at h
     simp only at h
     obtain ⟨ms2,e2⟩:∃ ms2,mapsV R l = (ms2,0):=⟨_,Prod.ext rfl (Prod.mk.inj h).2⟩
     rw [e2] at h
     cases h
     obtain ⟨a,b⟩:=maps_backV R l ms2 (fun y hy => hm y (List.mem_cons_of_mem _ hy)) e2
     obtain ⟨c,d⟩:=mapping_backV (hm x List.mem_cons_self) hv
     refine ⟨by rw [List.map_cons,← a,← c],fun y hy => ?_⟩
     rcases List.mem_cons.1 hy with rfl | hy
     ·exact d
     ·exact b y hy
theorem value_back {V:JV} {M:MapP} (h:chartV V = .ok M):chartJ M = V ∧ mayM M = true:=by
 have hm:mayB V = true:=by
  cases hb:mayB V with
  | true => rfl
  | false => unfold chartV at h; rw [if_pos hb] at h; cases h
 rw [chartV_E hm] at h
 obtain ⟨X,s1,hs1⟩:∃ t s,objQ V tRepos 8 (pickQ V) = (t,s):=⟨_,_,rfl⟩
 obtain ⟨rs,e1,hr⟩:∃ l e,reposV X = (l,e):=⟨_,_,rfl⟩
 obtain ⟨l,s3,hs3⟩:∃ t s,listQ V tMapping 16 (failQ e1 s1) = (t,s):=⟨_,_,rfl⟩
 obtain ⟨ms,e2,hms⟩:∃ l' e,mapsV (namesR rs) l = (l',e):=⟨_,_,rfl⟩
 have z1:NZ s1:=by have:=nz_obj (V:=V) (n:=tRepos) (m:=8) (nz_pick V); rw [hs1] at this; exact this
 have z3:NZ s3:=by have:=nz_list (V:=V) (n:=tMapping) (m:=16) (nz_fail z1 e1); rw [hs3] at this; exact this
 unfold chartE at h
 simp only [hs1,hr,hs3,hms] at h
 split at h
 ·cases h
 ·next hd =>
  cases h
  obtain ⟨A,hA,hall⟩:=done_inv (Classical.not_not.1 hd) (nz_fail z3 e2)
  obtain ⟨rfl,rfl⟩:=fail_inv hA
  obtain ⟨B2,y2,hB2,rfl,g2,k2,e2,m2⟩:=list_inv hs3
  obtain ⟨rfl,rfl⟩:=fail_inv hB2
  obtain ⟨B1,hB1,rfl,g1,k1,m1⟩:=obj_inv hs1
  obtain ⟨h5,rfl⟩:=pick_ok hB1
  obtain ⟨hlen,hasc⟩:=may_asc hm h5
  have hnames:V.names = [tMapping,tRepos]:=by
   refine asc_eq _ _ hasc two_names (fun s hs => ?_) (fun s hs => ?_)
   ·have:=hall s hs
    simp only [List.nil_append,List.cons_append,List.mem_cons,List.not_mem_nil,or_false] at this ⊢
    exact this.symm
   ·simp only [List.mem_cons,List.not_mem_nil,or_false] at hs
    rcases hs with rfl | rfl
    ·exact getN_some g2
    ·exact getN_some g1
  have hV:=(may_parts hm).2.2.2.2 h5
  rw [hnames] at hlen g1 g2
  match hi:V.items,hlen with
  | [a1,a2],_ =>
    rw [hi] at g1 g2
    have n1:¬ tMapping.data.toList = tRepos.data.toList:=by decide
    simp only [getN,n1,if_true,if_false,Option.some.injEq] at g1 g2
    subst g1 g2 e2
    have mi:∀ z ∈ V.items,mayB z = true:=fun z hz => may_item hm (Or.inr h5) hz
    rw [hi] at mi
    have q1:=(may_parts (mi a1 (by simp))).2.2.2.1 k2
    have q2:=(may_parts (mi a2 (by simp))).2.2.2.2 k1
    obtain ⟨hl2,hasc2⟩:=may_asc (mi a2 (by simp)) k1
    have hne:a2.items ≠ []:=fun e => by
     unfold reposV at hr
     rw [if_pos e] at hr
     cases hr
    unfold reposV at hr
    rw [if_neg hne] at hr
    obtain ⟨r1,r2,r3⟩:=repoGo_back _ _ _ hl2 (fun x hx => may_item (mi a2 (by simp)) (Or.inr k1) hx) hr
    obtain ⟨p1,p2⟩:=maps_backV _ _ _ (fun x hx => may_item (mi a1 (by simp)) (Or.inl k2) hx) hms
    refine ⟨?_,?_⟩
    ·rw [chartJ,reposJ]
     simp only
     rw [← p1,r1,← r2,← q2,← q1,hV,hnames,hi]
    ·have hrl:rs.length = a2.items.length:=by rw [r2,List.length_map]
     have h1:1 ≤ rs.length:=by rw [hrl]; exact List.length_pos_iff.2 hne
     have hml:ms.length ≤ 16:=by rw [p1,List.length_map] at m2; exact m2
     have hab:ascB (namesR rs) = true:=by rw [r1]; exact (may_fit (mi a2 (by simp)) k1).2
     unfold mayM
     simp only [Bool.and_eq_true,decide_eq_true_eq,List.all_eq_true]
     exact ⟨⟨⟨⟨⟨h1,by omega⟩,hml⟩,hab⟩,fun r hr => r3 r hr⟩,fun m hm => p2 m hm⟩
end
end Go.Proofs.YtaloajeldimpnaaGreatDoor
