/-
  legateref11.TextOf, NumOf, BoolOf, TextsOf.
  legateref25.object; the values that Value's statements yield.
  legateref25.Value: the object of a map, as the document has it.
-/
import Derived.Test.YtkphgjkflhjfjaaGreatDoorChartV
import Derived.Test.YtkphgjkflhjfjaaGreatDoorRefM3
import Derived.Test.YtkphgjkflhjfjaaGreatDoorChartVal
namespace Go.Proofs.YtkphgjkflhjfjaaGreatDoor
section
set_option maxRecDepth 100000
open Go.RowKit
theorem textR_any (s:ByteArray) (w:World) :
 Calls Tryz.prog 63 #[.string s] w fun e w' => e = .returned (.agg #[.int .u8 3,.int .i64 0,.string s,.slice none 0 0,.slice none 0 0]) ∧ Below w.heap.size w w':=by
 have HB:Hid (∀ cs,Below w.heap.size w (w.alloc (.cells cs 31))):=fun cs => bel_alloc (Below.refl _ _) _
 obtain ⟨q0,q1,q2,q3,q4,-⟩:=b5t (blkAt_newC w #[.int .u8 3,.int .i64 0,.string s,.slice none 0 0,.slice none 0 0] 31)
 go_enter Tryz.func63,Tryz.ntmps63
 go_wp2_with fail
 exact bodyPost_ret (v:=.agg #[.int .u8 3,.int .i64 0,.string s,.slice none 0 0,.slice none 0 0]) (by simp [results,Tryz.results63,go_sem,q0,q1,q2,q3,q4]) rfl ⟨rfl,HB.out _⟩
set_option maxHeartbeats 2000000 in
theorem numR_any (n:Int) (w:World) :
 Calls Tryz.prog 30 #[.int .i64 n] w fun e w' => e = .returned (.agg #[.int .u8 2,.int .i64 n,.string ⟨#[]⟩,.slice none 0 0,.slice none 0 0]) ∧ Below w.heap.size w w':=by
 have HB:Hid (∀ cs,Below w.heap.size w (w.alloc (.cells cs 31))):=fun cs => bel_alloc (Below.refl _ _) _
 obtain ⟨q0,q1,q2,q3,q4,-⟩:=b5t (blkAt_newC w #[.int .u8 2,.int .i64 n,.string ⟨#[]⟩,.slice none 0 0,.slice none 0 0] 31)
 go_enter Tryz.func30,Tryz.ntmps30
 go_wp2_with fail
 exact bodyPost_ret (v:=.agg #[.int .u8 2,.int .i64 n,.string ⟨#[]⟩,.slice none 0 0,.slice none 0 0]) (by simp [results,Tryz.results30,go_sem,q0,q1,q2,q3,q4]) rfl ⟨rfl,HB.out _⟩
theorem boolR_any (b:Bool) (w:World) :
 Calls Tryz.prog 29 #[.bool b] w fun e w' => e = .returned (.agg #[.int .u8 1,.int .i64 (if b = true then 1 else 0),.string ⟨#[]⟩,.slice none 0 0,.slice none 0 0]) ∧ Below w.heap.size w w':=by
 have HB:Hid (∀ cs,Below w.heap.size w (w.alloc (.cells cs 31))):=fun cs => bel_alloc (Below.refl _ _) _
 cases b with
 | true =>
   obtain ⟨q0,q1,q2,q3,q4,-⟩:=b5t (blkAt_newC w #[.int .u8 1,.int .i64 1,.string ⟨#[]⟩,.slice none 0 0,.slice none 0 0] 31)
   go_enter Tryz.func29,Tryz.ntmps29
   go_wp2_with fail
   exact bodyPost_ret (v:=.agg #[.int .u8 1,.int .i64 1,.string ⟨#[]⟩,.slice none 0 0,.slice none 0 0]) (by simp [results,Tryz.results29,go_sem,q0,q1,q2,q3,q4]) rfl ⟨rfl,HB.out _⟩
 | false =>
   obtain ⟨q0,q1,q2,q3,q4,-⟩:=b5t (blkAt_newC w #[.int .u8 1,.int .i64 0,.string ⟨#[]⟩,.slice none 0 0,.slice none 0 0] 31)
   go_enter Tryz.func29,Tryz.ntmps29
   go_wp2_with fail
   exact bodyPost_ret (v:=.agg #[.int .u8 1,.int .i64 0,.string ⟨#[]⟩,.slice none 0 0,.slice none 0 0]) (by simp [results,Tryz.results29,go_sem,q0,q1,q2,q3,q4]) rfl ⟨rfl,HB.out _⟩
set_option maxHeartbeats 8000000 in
theorem textsR_any (l:List ByteArray) (v:Value) (w:World) (h:StrsAt w v l) (hl9:l.length ≤ 1000000) :
 Calls Tryz.prog 28 #[v] w fun e w' => ∃ x:VC,e = .returned x.val ∧ Below w.heap.size w w' ∧ NewV w.heap.size w' (textsJ l) x.val:=by
 obtain ⟨sa,scap,rfl,hl,hm,hc⟩:=h.parts
 obtain ⟨n,hn⟩:∃ n,l.length = n:=⟨_,rfl⟩
 rw [hn] at hl hl9 ⊢
 obtain ⟨i0,hi,hz0,hz1,hz2⟩:=info_parts infoVal
 obtain ⟨W,hW⟩:∃ W,W = (w.alloc (.cells #[.int .u8 0,.int .i64 0,.string ⟨#[]⟩,.slice none 0 0,.slice none 0 0] 31)).alloc (.cells #[.int .u8 4,.int .i64 0,.string ⟨#[]⟩,.slice none 0 0,.slice none 0 0] 31):=⟨_,rfl⟩
 have hBW:Below w.heap.size w W:=by rw [hW]; exact bel_alloc (bel_alloc (Below.refl _ _) _) _
 have HRW:Hid (BlkAt W w.heap.size 31 #[.int .u8 0,.int .i64 0,.string ⟨#[]⟩,.slice none 0 0,.slice none 0 0]):=by rw [hW]; exact (blkAt_new w _ _).alloc _
 have HMW:Hid (BlkAt W (w.heap.size + 1) 31 #[.int .u8 4,.int .i64 0,.string ⟨#[]⟩,.slice none 0 0,.slice none 0 0]):=by
  rw [hW]
  have:=blkAt_new (w.alloc (.cells #[.int .u8 0,.int .i64 0,.string ⟨#[]⟩,.slice none 0 0,.slice none 0 0] 31)) #[.int .u8 4,.int .i64 0,.string ⟨#[]⟩,.slice none 0 0,.slice none 0 0] 31
  rwa [size_al] at this
 have hsW:W.heap.size = w.heap.size + 2:=by rw [hW,size_al,size_al]
 obtain ⟨H0,hH0⟩:∃ h,w.heap.size + 2 = h:=⟨_,rfl⟩
 obtain ⟨mb,hmb⟩:∃ h,w.heap.size + 1 = h:=⟨_,rfl⟩
 have HBW:=Lib.hid hBW
 have HW:=Lib.hid hW
 have HC:=Lib.hid hc
 have HM:=Lib.hid hm
 have HN:=Lib.hid hn
 have HI:=Lib.hid hi
 have HZ0:=Lib.hid hz0
 have HZ1:=Lib.hid hz1
 have HZ2:=Lib.hid hz2
 have HMB:=Lib.hid hmb
 rw [hmb] at HMW
 have hsW2:H0 = W.heap.size:=by omega
 clear h hc hm hn hi hz0 hz1 hz2 hW hBW
 go_enter Tryz.func28,Tryz.ntmps28
 go_wp2_with fail
 rw [← HW.out]
 go_loopw [4] (fun i wr => ∃ (j:Nat) (xs:List XI) (a:Option Addr) (cp:Nat),j ≤ n ∧ i = .int .i64 j ∧ xs.length = j ∧ Hid (xs.map Prod.snd = (l.take j).map textJ) ∧ H0 ≤ wr.heap.size ∧ Hid (Below w.heap.size w wr) ∧ Hid (BlkAt wr w.heap.size 31 #[.int .u8 0,.int .i64 0,.string ⟨#[]⟩,.slice none 0 0,.slice none 0 0]) ∧ Hid (BlkAt wr mb 31 #[.int .u8 4,.int .i64 0,.string ⟨#[]⟩,.slice none 0 0,.slice a j cp]) ∧ Hid (ItemsOwn wr H0 (.slice a j cp) xs)) (fun i _ => n - (intOf i).toNat)
 case atStart => exact ⟨0,[],none,0,by omega,rfl,rfl,rfl,by omega,HBW.out,HRW.out,HMW.out,ItemsOwn.nil _ _⟩
 case round =>
  obtain ⟨j,xs,a,cp,hj,rfl,hxs,HXS,hsz,HBr,HRr,HCr,HIr⟩:=hrel
  by_cases hjn:j < n
  ·obtain ⟨s,hs⟩:∃ x,l[j]? = some x:=⟨_,List.getElem?_eq_getElem (by rw [HN.out]; exact hjn)⟩
   obtain ⟨xb,xo,rfl,hcs⟩:=HC.out j s hs
   have hcs2:=cell_keep HBr.out hcs
   have hz:=HM.out s (List.mem_of_getElem? hs)
   have hj0':(0:Int) ≤ (j:Int):=by omega
   have hj1':(j:Int) < (n:Int):=by omega
   have HS:=Lib.hid hs
   have HZ:=Lib.hid hz
   have hcl:mb < H0:=by omega
   have HDUP:=Lib.hid (fun W => textR_any s W)
   obtain ⟨w1,rfl⟩:∃ y,y = wr:=⟨wr,rfl⟩
   obtain ⟨q0,q1,q2,q3,q4,qf⟩:=blk5 HCr.out
   clear hs hcs hz
   go_wp2_with fail
   go_region_law (first
    | (refine step_append_lies _ (by rfl) _ _ _ (by rfl) H0 31 i0 _ 5 80 Tryz.underlying29 HI.out HZ0.out HZ1.out HZ2.out rfl (by omega) (.slice a j cp) j (xiCells xs) (by rfl) (World.ownsRow.alloc ho4 _) ⟨w4.heap.size,0,none⟩ 1 1 [.int .u8 3,.int .i64 0,.string s,.slice none 0 0,.slice none 0 0] (by rfl) (by rfl) (World.news_of_block (cs:=#[.int .u8 3,.int .i64 0,.string s,.slice none 0 0,.slice none 0 0]) (t:=31) (fr:=(0,0)) (heap_alloc_new w4 _)) (by intro u hu; simp only [List.mem_cons,List.not_mem_nil,or_false] at hu; rcases hu with rfl | rfl | rfl | rfl | rfl <;> rfl) (by omega) (by unfold maxLen; omega) (by omega) (by rw [size_al]; omega) (w4.heap.size + 1) (size_al _ _) ?_; intro gg cp' w6 hown6 hgrow hat hlt; have hc6:=blk_grown ho4 hgrow (BlkAt.keep HCr.out hb5) hcl; obtain ⟨r0,r1,r2,r3,r4,rf⟩:=blk5 hc6)
    | (go_simp; go_at_call 63; refine (HDUP.out _).mono ?_; rintro e w4 ⟨rfl,hb4⟩; have hb5:Below w1.heap.size w1 w4:=below_more (by (repeat (first | exact Below.refl _ _ | refine bel_drew ?_))) hb4; obtain ⟨p0,p1,p2,p3,p4,pf⟩:=blk5 (BlkAt.keep HCr.out hb5); obtain ⟨s0,s1,s2,s3,s4,sf⟩:=blk5 ((BlkAt.keep HCr.out hb5).alloc (.cells #[.int .u8 3,.int .i64 0,.string s,.slice none 0 0,.slice none 0 0] 31)); have hz4:=hb5.size; have ho4:=own_len hxs (HIr.out.kept (r:=mb) (by omega) (grown_of hb5 _)).1))
   all_goals
    have hfz4:H0 ≤ w4.heap.size:=Nat.le_trans hsz hz4
    have hne6:∀ k,k < H0 → some k ≠ (Value.slice a j cp).ownBlock:=fun k hk e => by
     have:=(World.ownsRow.lt ho4 k e.symm).1
     omega
    have hI6:ItemsOwn w6 H0 (.slice (some ⟨gg,0,none⟩) (j + 1) cp') (xs ++ [(⟨3,0,s,none,0,0,none,0,0⟩,textJ s)]) :=
     ItemsOwn.snoc HIr.out (textJ_at _ s HZ.out) hsz hz4 (hat.elim (fun e => Or.inl e.symm) (fun e => Or.inr ⟨gg,rfl,by omega⟩)) (by rw [hxs]; exact hown6) (fun k hk _ hne => (hgrow.block k (by rw [size_al]; omega) (fun e => hne e.symm)).trans ((bel_alloc (Below.refl _ _) _).block k hk)) (fun k hk _ => hb5.block k hk)
    have HI7:=Lib.hid (hI6.set hcl 4 (.slice (some ⟨gg,0,none⟩) (j + 1) cp'))
    have hb6:Below w.heap.size w w6:=(bel_alloc (below_more HBr.out hb5) _).grown hgrow (by rw [size_al]; have:=HBr.out.size; omega) (fun k hk => by have:=(World.ownsRow.lt ho4 k hk).1; omega)
    have HB7:Hid (Below w.heap.size w (w6.setCell ⟨mb,4,none⟩ (.slice (some ⟨gg,0,none⟩) (j + 1) cp'))):=bel_set hb6 (by show w.heap.size ≤ mb; omega) _
    have HC7:Hid (BlkAt (w6.setCell ⟨mb,4,none⟩ (.slice (some ⟨gg,0,none⟩) (j + 1) cp')) mb 31 #[.int .u8 4,.int .i64 0,.string ⟨#[]⟩,.slice none 0 0,.slice (some ⟨gg,0,none⟩) (j + 1) cp']):=hc6.set 4 _
    have HR7:Hid (BlkAt (w6.setCell ⟨mb,4,none⟩ (.slice (some ⟨gg,0,none⟩) (j + 1) cp')) w.heap.size 31 #[.int .u8 0,.int .i64 0,.string ⟨#[]⟩,.slice none 0 0,.slice none 0 0]):=(blk_grown ho4 hgrow (BlkAt.keep HRr.out hb5) (by omega)).set_far (by omega) 4 _
    have hs7:H0 ≤ (w6.setCell ⟨mb,4,none⟩ (.slice (some ⟨gg,0,none⟩) (j + 1) cp')).heap.size:=by
     show H0 ≤ (w6.heap.modify _ _).size
     rw [Array.size_modify]
     have h1:=hgrow.size
     rw [size_al] at h1
     omega
    have HXS7:Hid ((xs ++ [((⟨3,0,s,none,0,0,none,0,0⟩:VC),textJ s)]).map Prod.snd = (l.take (j + 1)).map textJ):=by
     show _ = _
     rw [List.map_append,HXS.out,List.take_add_one,HS.out,List.map_append]
     rfl
    have hxs7:(xs ++ [((⟨3,0,s,none,0,0,none,0,0⟩:VC),textJ s)]).length = j + 1:=by rw [List.length_append,hxs]; rfl
    clear hown6 hgrow hat hlt hc6 hI6 hb6 ho4 hb4 hb5 hne6 q0 q1 q2 q3 q4 qf p0 p1 p2 p3 p4 pf s0 s1 s2 s3 s4 sf r0 r1 r2 r3 r4 rf HRr HCr HIr HBr
    generalize w6.setCell ⟨mb,4,none⟩ (.slice (some ⟨gg,0,none⟩) (j + 1) cp') = w7 at HI7 HB7 HC7 HR7 hs7 ⊢
    go_wp2_with fail
    exact ⟨⟨j + 1,_,_,cp',by omega,by go_num,hxs7,HXS7,hs7,HB7,HR7,HC7,HI7⟩,by simp [intOf]; omega⟩
  ·obtain rfl:j = n:=by omega
   have hj1:¬ (j:Int) < (j:Int):=by omega
   obtain ⟨c0,c1,c2,c3,c4,cf⟩:=blk5 HCr.out
   obtain ⟨z0,z1,z2,z3,z4,zf⟩:=blk5 HRr.out
   have hIt:ItemsAt (hidden (offB w.heap.size none) (((((wr.setCell ⟨w.heap.size,0,none⟩ (.int .u8 4)).setCell ⟨w.heap.size,1,none⟩ (.int .i64 0)).setCell ⟨w.heap.size,2,none⟩ (.string ⟨#[]⟩)).setCell ⟨w.heap.size,3,none⟩ (.slice none 0 0)).setCell ⟨w.heap.size,4,none⟩ (.slice a j cp))) (.slice a j cp) (l.map textJ):=by
    have h1:=HIr.out.out (by omega)
    rw [HXS.out,List.take_of_length_le (by rw [HN.out]; exact Nat.le_refl _)] at h1
    exact h1.carry fun k hk hP => ⟨offB_none.2 (by have:=offB_none.1 hP; omega),heap_set5 _ _ _ _ _ _ _ _ (by have:=offB_none.1 hP; omega)⟩
   have HNV:Hid (NewV w.heap.size (((((wr.setCell ⟨w.heap.size,0,none⟩ (.int .u8 4)).setCell ⟨w.heap.size,1,none⟩ (.int .i64 0)).setCell ⟨w.heap.size,2,none⟩ (.string ⟨#[]⟩)).setCell ⟨w.heap.size,3,none⟩ (.slice none 0 0)).setCell ⟨w.heap.size,4,none⟩ (.slice a j cp)) (textsJ l) (.agg #[.int .u8 4,.int .i64 0,.string ⟨#[]⟩,.slice none 0 0,.slice a j cp])):=valAt_mk (by decide) (by decide) (by decide) (by decide) (by decide) (strsAt_nil _) hIt
   clear hIt HIr HXS HCr HRr
   go_wp2_with fail
   exact bodyPost_ret (v:=.agg #[.int .u8 4,.int .i64 0,.string ⟨#[]⟩,.slice none 0 0,.slice a j cp]) (by simp [results,Tryz.results28,go_sem,z0,z1,z2,z3,z4]) rfl ⟨⟨4,0,⟨#[]⟩,none,0,0,a,j,cp⟩,rfl,bel_set (bel_set (bel_set (bel_set (bel_set HBr.out (Nat.le_refl _) _) (Nat.le_refl _) _) (Nat.le_refl _) _) (Nat.le_refl _) _) (Nat.le_refl _) _,HNV.out⟩
end

section
set_option maxRecDepth 100000
open Go.RowKit
theorem object25_any (a b:Option Addr) (n c m d:Nat) (w:World) :
 Calls Tryz.prog 27 #[.slice a n c,.slice b m d] w fun e w' => e = .returned (.agg #[.int .u8 5,.int .i64 0,.string ⟨#[]⟩,.slice a n c,.slice b m d]) ∧ Below w.heap.size w w':=by
 have HB:Hid (∀ cs,Below w.heap.size w (w.alloc (.cells cs 31))):=fun cs => bel_alloc (Below.refl _ _) _
 obtain ⟨q0,q1,q2,q3,q4,-⟩:=b5t (blkAt_newC w #[.int .u8 5,.int .i64 0,.string ⟨#[]⟩,.slice a n c,.slice b m d] 31)
 go_enter Tryz.func27,Tryz.ntmps27
 go_wp2_with fail
 exact bodyPost_ret (v:=.agg #[.int .u8 5,.int .i64 0,.string ⟨#[]⟩,.slice a n c,.slice b m d]) (by simp [results,Tryz.results27,go_sem,q0,q1,q2,q3,q4]) rfl ⟨rfl,HB.out _⟩
theorem hid_blk {B b i:Nat} {w:World} {cs:Array Value} {T:TypeId} {u:Value} (hb:B ≤ b) (h:BlkAt w b T cs) (hu:cs[i]? = some u):(hidden (offB B none) w).cell? ⟨b,i,none⟩ = some u :=
 (hidden_cell _ _ _ _).2 ⟨offB_none.2 hb,⟨cs,T,h⟩,(h.cell i).trans hu⟩
def boolC (b:Bool):VC:=⟨1,(if b = true then 1 else 0),⟨#[]⟩,none,0,0,none,0,0⟩
def numC (n:Int):VC:=⟨2,n,⟨#[]⟩,none,0,0,none,0,0⟩
theorem mapgNew {B nb ib:Nat} {Y:World} {x:MapgP} {p r:VC} (hnb:B ≤ nb) (hib:B ≤ ib) (hn:BlkAt Y nb 9 #[.string tPaths,.string tRepos,.string tTerm,.string tThr])
 (hi:BlkAt Y ib 31 (p.cells ++ (r.cells ++ ((boolC x.term).cells ++ (numC x.thr).cells))).toArray) (hp:NewV B Y (textsJ x.paths) p.val) (hr:NewV B Y (textsJ x.repos) r.val) (h0:-9223372036854775808 ≤ x.thr) (h1:x.thr ≤ 9223372036854775807) :
 NewV B Y (mapgJ x) (.agg #[.int .u8 5,.int .i64 0,.string ⟨#[]⟩,.slice (some ⟨nb,0,none⟩) 4 4,.slice (some ⟨ib,0,none⟩) 4 4]):=by
 have hb:ValAt (hidden (offB B none) Y) (boolJ x.term) (.agg #[.int .u8 1,.int .i64 (if x.term = true then 1 else 0),.string ⟨#[]⟩,.slice none 0 0,.slice none 0 0]) :=
  valAt_leaf _ _ _ _ (by decide) (by decide) (by split <;> decide) (by split <;> decide) (by decide)
 have hm:ValAt (hidden (offB B none) Y) (numJ x.thr) (.agg #[.int .u8 2,.int .i64 x.thr,.string ⟨#[]⟩,.slice none 0 0,.slice none 0 0]) :=
  valAt_leaf _ _ _ _ (by decide) (by decide) h0 h1 (by decide)
 have hc:∀ i u,(p.cells ++ (r.cells ++ ((boolC x.term).cells ++ (numC x.thr).cells))).toArray[i]? = some u → (hidden (offB B none) Y).cell? ⟨ib,i,none⟩ = some u:=fun i u hu => hid_blk hib hi hu
 refine valAt_mk (by decide) (by decide) (by decide) (by decide) (by decide) (strsAt_of (by decide) (by decide) (fun i s hs => ?_) rfl) (itemsAt_of (by show 4 ≤ _; decide) ?_ rfl)
 ·match i,hs with
  | 0,hs => cases hs; exact hid_blk hnb hn rfl
  | 1,hs => cases hs; exact hid_blk hnb hn rfl
  | 2,hs => cases hs; exact hid_blk hnb hn rfl
  | 3,hs => cases hs; exact hid_blk hnb hn rfl
  | i + 4,hs => simp at hs
 ·refine rowAt_cons hp (hc 0 _ rfl) (hc 1 _ rfl) (hc 2 _ rfl) (hc 3 _ rfl) (hc 4 _ rfl) ?_
  refine rowAt_cons hr (hc 5 _ rfl) (hc 6 _ rfl) (hc 7 _ rfl) (hc 8 _ rfl) (hc 9 _ rfl) ?_
  refine rowAt_cons hb (hc 10 _ rfl) (hc 11 _ rfl) (hc 12 _ rfl) (hc 13 _ rfl) (hc 14 _ rfl) ?_
  exact rowAt_cons hm (hc 15 _ rfl) (hc 16 _ rfl) (hc 17 _ rfl) (hc 18 _ rfl) (hc 19 _ rfl) (rowAt_nil _ _ _)
def rvD (B lb M:Nat) (iv:Value) (x:MapgP) (a1 a2:Value) (k:Nat) (v:Value) (w:World):Prop :=
 match k with
 | 0 => v = .pointer (some ⟨lb,4,none⟩)
 | 1 => v = iv
 | 2 => ∃ b,v = .slice (some ⟨b,0,none⟩) 4 4 ∧ B ≤ b ∧ BlkAt w b 9 #[.string tPaths,.string tRepos,.string tTerm,.string tThr]
 | 3 => v = .pointer (some ⟨M,0,none⟩)
 | 4 => v = a1
 | 5 => ∃ y:VC,v = y.val ∧ NewV B w (textsJ x.paths) y.val
 | 6 => v = .pointer (some ⟨M,1,none⟩)
 | 7 => v = a2
 | 8 => ∃ y:VC,v = y.val ∧ NewV B w (textsJ x.repos) y.val
 | 9 => v = .pointer (some ⟨M,2,none⟩)
 | 10 => v = .bool x.term
 | 11 => v = .agg #[.int .u8 1,.int .i64 (if x.term = true then 1 else 0),.string ⟨#[]⟩,.slice none 0 0,.slice none 0 0]
 | 12 => v = .pointer (some ⟨M,3,none⟩)
 | 13 => v = .int .i64 x.thr
 | 14 => v = .agg #[.int .u8 2,.int .i64 x.thr,.string ⟨#[]⟩,.slice none 0 0,.slice none 0 0]
 | 15 => ∃ (b:Nat) (p r:VC),v = .slice (some ⟨b,0,none⟩) 4 4 ∧ B ≤ b ∧ NewV B w (textsJ x.paths) p.val ∧ NewV B w (textsJ x.repos) r.val ∧ BlkAt w b 31 (p.cells ++ (r.cells ++ ((boolC x.term).cells ++ (numC x.thr).cells))).toArray
 | 16 => ∃ y:VC,v = y.val ∧ NewV B w (mapgJ x) y.val
 | 17 => ∃ (b:Nat) (y:VC),v = .slice (some ⟨b,0,none⟩) 1 1 ∧ BlkAt w b 31 y.cells.toArray ∧ NewV B w (mapgJ x) y.val
 | _ => True
theorem rvD_keep {B lb M:Nat} {iv:Value} {x:MapgP} {a1 a2:Value}:∀ k v w w',rvD B lb M iv x a1 a2 k v w → Below w.heap.size w w' → rvD B lb M iv x a1 a2 k v w':=by
 intro k v w w' h hb
 unfold rvD at h ⊢
 split at h <;> try exact h
 ·obtain ⟨b,h1,h2,h3⟩:=h
  exact ⟨b,h1,h2,BlkAt.keep h3 hb⟩
 ·obtain ⟨y,h1,h2⟩:=h
  exact ⟨y,h1,h2.keepB hb⟩
 ·obtain ⟨y,h1,h2⟩:=h
  exact ⟨y,h1,h2.keepB hb⟩
 ·obtain ⟨b,p,r,h1,h2,h3,h4,h5⟩:=h
  exact ⟨b,p,r,h1,h2,h3.keepB hb,h4.keepB hb,BlkAt.keep h5 hb⟩
 ·obtain ⟨y,h1,h2⟩:=h
  exact ⟨y,h1,h2.keepB hb⟩
 ·obtain ⟨b,y,h1,h2,h3⟩:=h
  exact ⟨b,y,h1,BlkAt.keep h2 hb,h3.keepB hb⟩
def rwD (B rb mb:Nat) (iv a1:Value) (j xb xo:Nat) (us:Value) (l:List ByteArray) (k:Nat) (v:Value) (w:World):Prop :=
 match k with
 | 0 => v = .pointer (some ⟨rb,4,none⟩)
 | 1 => v = iv
 | 2 => v = .pointer (some ⟨mb,0,none⟩)
 | 3 => v = a1
 | 4 => v = .int .i64 j
 | 5 => v = .pointer (some ⟨xb,xo + j * 2,none⟩)
 | 6 => v = .pointer (some ⟨xb,xo + j * 2 + 1,none⟩)
 | 7 => v = us
 | 8 => ∃ y:VC,v = y.val ∧ NewV B w (textsJ l) y.val
 | 9 => ∃ (b:Nat) (y:VC),v = .slice (some ⟨b,0,none⟩) 1 1 ∧ BlkAt w b 31 y.cells.toArray ∧ NewV B w (textsJ l) y.val
 | _ => True
theorem rwD_keep {B rb mb:Nat} {iv a1:Value} {j xb xo:Nat} {us:Value} {l:List ByteArray}:∀ k v w w',rwD B rb mb iv a1 j xb xo us l k v w → Below w.heap.size w w' → rwD B rb mb iv a1 j xb xo us l k v w':=by
 intro k v w w' h hb
 unfold rwD at h ⊢
 split at h <;> try exact h
 ·obtain ⟨y,h1,h2⟩:=h
  exact ⟨y,h1,h2.keepB hb⟩
 ·obtain ⟨b,y,h1,h2,h3⟩:=h
  exact ⟨b,y,h1,BlkAt.keep h2 hb,h3.keepB hb⟩
end

section
set_option maxRecDepth 100000
open Go.RowKit
set_option maxHeartbeats 64000000 in
theorem value25_any (M:MapP) (v:Value) (w:World) (h:MapAt w v M) (hsh:∀ r ∈ M.repos,∀ s ∈ r.2,s.size ≤ 20000) :
 Calls Tryz.prog 8 #[v] w fun e w' => Below w.heap.size w w' ∧ ((mayM M = false ∧ e = .returned (.tuple #[.agg #[.int .u8 0,.int .i64 0,.string ⟨#[]⟩,.slice none 0 0,.slice none 0 0],.int .i64 3])) ∨ (mayM M = true ∧ ∃ y:VC,e = .returned (.tuple #[y.val,.int .i64 0]) ∧ NewV w.heap.size w' (chartJ M) y.val)):=by
 have HMH:=Lib.hid h
 obtain ⟨a1,c1,a2,c2,rfl,hr,hm⟩:=h.parts
 obtain ⟨ra',rc',e0,-,hrc⟩:=hr.at
 obtain ⟨ma',mc',e1,-,hmc⟩:=hm.at
 simp only [Value.slice.injEq,true_and] at e0 e1
 obtain ⟨rfl,rfl⟩:=e0
 obtain ⟨rfl,rfl⟩:=e1
 obtain ⟨rs,hrs⟩:∃ x,M.repos = x:=⟨_,rfl⟩
 obtain ⟨ms,hms⟩:∃ x,M.maps = x:=⟨_,rfl⟩
 obtain ⟨n1,hn1⟩:∃ n,rs.length = n:=⟨_,rfl⟩
 obtain ⟨n2,hn2⟩:∃ n,ms.length = n:=⟨_,rfl⟩
 rw [hrs] at hr hrc HMH ⊢
 rw [hms] at hm hmc HMH ⊢
 rw [hn1] at HMH ⊢
 rw [hn2] at HMH ⊢
 obtain ⟨W,hW⟩:∃ y,y = (w.alloc (.cells #[.slice a1 n1 c1,.slice a2 n2 c2] 25)).alloc (.cells #[.int .u8 0,.int .i64 0,.string ⟨#[]⟩,.slice none 0 0,.slice none 0 0] 31):=⟨_,rfl⟩
 have hbW:Below w.heap.size w W:=by rw [hW]; exact bel_alloc (bel_alloc (Below.refl _ _) _) _
 have hK0:BlkAt W w.heap.size 25 #[.slice a1 n1 c1,.slice a2 n2 c2]:=by rw [hW]; exact (blkAt_new w _ _).alloc _
 have hK1:BlkAt W (w.heap.size + 1) 31 #[.int .u8 0,.int .i64 0,.string ⟨#[]⟩,.slice none 0 0,.slice none 0 0]:=by
  rw [hW]
  have:=blkAt_new (w.alloc (.cells #[.slice a1 n1 c1,.slice a2 n2 c2] 25)) #[.int .u8 0,.int .i64 0,.string ⟨#[]⟩,.slice none 0 0,.slice none 0 0] 31
  rwa [size_al] at this
 have hsW:W.heap.size = w.heap.size + 2:=by rw [hW,size_al,size_al]
 have HMAY:=Lib.hid (fun Y (hb:Below w.heap.size w Y) => may25_any M _ Y (HMH.out.keep hb) (by rw [hrs]; rw [hrs] at hsh; exact hsh))
 obtain ⟨mb,hmb⟩:∃ b,mayM M = b:=⟨_,rfl⟩
 rw [hmb] at HMAY ⊢
 have HK0:=Lib.hid hK0
 have HK1:=Lib.hid hK1
 have HBW:=Lib.hid hbW
 have HSW:=Lib.hid hsW
 have HW:=Lib.hid hW
 have HRC:=Lib.hid hrc
 have HMC:=Lib.hid hmc
 have HN1:=Lib.hid hn1
 have HN2:=Lib.hid hn2
 have HRS:=Lib.hid hrs
 have HMS:=Lib.hid hms
 have HMB:=Lib.hid hmb
 obtain ⟨i0,hi,hz0,hz1,hz2⟩:=info_parts infoVal
 have HI:=Lib.hid hi
 have HZ0:=Lib.hid hz0
 have HZ1:=Lib.hid hz1
 have HZ2:=Lib.hid hz2
 obtain ⟨k0,k1,kf⟩:=b2 HK0.out
 clear hr hm hrc hmc hn1 hn2 hrs hms hmb hK0 hK1 hbW hsW hW hi hz0 hz1 hz2 hsh
 go_enter Tryz.func8,Tryz.ntmps8
 go_wp2_with fail
 rw [← HW.out]
 refine (HMAY.out _ HBW.out).mono ?_
 rintro e w1 ⟨rfl,hb1⟩
 have HB1:=Lib.hid (below_more HBW.out hb1)
 have HL0:=Lib.hid (BlkAt.keep HK0.out hb1)
 have HL1:=Lib.hid (BlkAt.keep HK1.out hb1)
 have hs1:w.heap.size + 2 ≤ w1.heap.size:=by have:=hb1.size; have:=HSW.out; omega
 obtain ⟨k0,k1,kf⟩:=b2 HL0.out
 obtain ⟨z0,z1,z2,z3,z4,zf⟩:=b5 HL1.out
 clear hb1 HMAY HW
 cases mb with
 | false =>
   have HB5:=Lib.hid (bset5 HB1.out (Nat.le_succ _) (.int .u8 0) (.int .i64 0) (.string ⟨#[]⟩) (.slice none 0 0) (.slice none 0 0))
   have HR5:=Lib.hid (blk_set5 HL1.out (.int .u8 0) (.int .i64 0) (.string ⟨#[]⟩) (.slice none 0 0) (.slice none 0 0))
   obtain ⟨q0,q1,q2,q3,q4,-⟩:=b5 HR5.out
   go_wp2_with fail
   exact bodyPost_ret (v:=.tuple #[.agg #[.int .u8 0,.int .i64 0,.string ⟨#[]⟩,.slice none 0 0,.slice none 0 0],.int .i64 3]) (by simp [results,Tryz.results8,go_sem,q0,q1,q2,q3,q4]) rfl ⟨HB5.out,by first | rfl | exact Or.inl ⟨rfl,rfl⟩⟩
 | true =>
   have hbd:=may_bounds HMB.out
   have hpt:=mayM_parts HMB.out
   rw [HRS.out,HMS.out] at hbd hpt
   obtain ⟨m1,m2,m3,-,-,-⟩:=hpt
   rw [HN1.out] at m1 m2
   rw [HN2.out] at m3
   have HBD:=Lib.hid hbd
   obtain ⟨w2,hw2⟩:∃ y,y = w1.alloc (.cells #[.int .u8 4,.int .i64 0,.string ⟨#[]⟩,.slice none 0 0,.slice none 0 0] 31):=⟨_,rfl⟩
   have hb2:Below w1.heap.size w1 w2:=by rw [hw2]; exact bel_alloc (Below.refl _ _) _
   have HLB:Hid (BlkAt w2 w1.heap.size 31 #[.int .u8 4,.int .i64 0,.string ⟨#[]⟩,.slice none 0 0,.slice none 0 0]):=by rw [hw2]; exact blkAt_new w1 _ _
   have hs2:w2.heap.size = w1.heap.size + 1:=by rw [hw2,size_al]
   have HW2:=Lib.hid hw2
   have HB2:=Lib.hid hb2
   obtain ⟨lb,hlb⟩:∃ z,w1.heap.size = z:=⟨_,rfl⟩
   rw [hlb] at HLB hs2
   have HLBE:=Lib.hid hlb
   clear hbd z0 z1 z2 z3 z4 zf hw2 hb2
   go_wp2_with fail
   rw [← HW2.out]
   clear hlb
   go_loopw [5] (fun i wr => ∃ (f:Nat) (ys:List XI) (ia:Option Addr) (ic:Nat),f ≤ n2 ∧ i = .int .i64 f ∧ ys.length = f ∧ Hid (ys.map Prod.snd = (ms.take f).map mapgJ) ∧ Hid (BlkAt wr lb 31 #[.int .u8 4,.int .i64 0,.string ⟨#[]⟩,.slice none 0 0,.slice ia f ic]) ∧ Hid (ItemsOwn wr w2.heap.size (.slice ia f ic) ys) ∧ Hid (Below w1.heap.size w1 wr) ∧ w2.heap.size ≤ wr.heap.size) (fun i _ => n2 - (intOf i).toNat)
   case atStart => exact ⟨0,[],none,0,by omega,rfl,rfl,rfl,HLB.out,ItemsOwn.nil _ _,HB2.out,Nat.le_refl _⟩
   case round =>
    obtain ⟨f,ys,ia,ic,hf,rfl,hys,HYS,HLR,HIr,HBf,hszr⟩:=hrel
    have l0:=cell_keep HBf.out k0
    have l1:=cell_keep HBf.out k1
    by_cases hfn:f < n2
    ·obtain ⟨x,hx⟩:∃ s,ms[f]? = some s:=⟨_,List.getElem?_eq_getElem (by rw [HN2.out]; exact hfn)⟩
     obtain ⟨xb,xo,b1,d1,b2',d2,rfl,p0,p1,p2,p3,xs1,xs2,hpx⟩:=HMC.out f x hx
     have hbx:=HBD.out.2 x (List.mem_of_getElem? hx)
     have hthr:-9223372036854775808 ≤ x.thr ∧ x.thr ≤ 9223372036854775807:=by obtain ⟨_,_,_,_,-,-,-,-,t0,t1⟩:=hpx.parts; exact ⟨t0,t1⟩
     have HBr:=Lib.hid (below_more HB1.out HBf.out)
     have p0:=cell_keep HBr.out p0
     have p1:=cell_keep HBr.out p1
     have p2:=cell_keep HBr.out p2
     have p3:=cell_keep HBr.out p3
     have i0':(0:Int) ≤ (f:Int):=by omega
     have i1'':(f:Int) < (n2:Int):=by omega
     obtain ⟨n3,hn3⟩:∃ z,x.paths.length = z:=⟨_,rfl⟩
     obtain ⟨n4,hn4⟩:∃ z,x.repos.length = z:=⟨_,rfl⟩
     have hb3:n3 ≤ 1000000 ∧ n4 ≤ 1000000:=⟨by omega,by omega⟩
     rw [hn3] at p0 xs1
     rw [hn4] at p1 xs2
     obtain ⟨w5,hw5⟩:∃ y,y = wr.alloc (.cells #[.slice b1 n3 d1,.slice b2' n4 d2,.bool x.term,.int .i64 x.thr] 50):=⟨_,rfl⟩
     have hb5:Below wr.heap.size wr w5:=by rw [hw5]; exact bel_alloc (Below.refl _ _) _
     have HX5:Hid (BlkAt w5 wr.heap.size 50 #[.slice b1 n3 d1,.slice b2' n4 d2,.bool x.term,.int .i64 x.thr]):=by rw [hw5]; exact blkAt_new wr _ _
     have HB5:=Lib.hid hb5
     have HW5:=Lib.hid hw5
     have hbw5:=below_more HBr.out hb5
     have HT1:Hid (∀ Y,Below w5.heap.size w5 Y → Calls Tryz.prog 28 #[.slice b1 n3 d1] Y fun e w' => ∃ y:VC,e = .returned y.val ∧ Below Y.heap.size Y w' ∧ NewV Y.heap.size w' (textsJ x.paths) y.val):=fun Y hY => textsR_any x.paths _ Y ((xs1.keep hbw5).keep hY) (by omega)
     have HT2:Hid (∀ Y,Below w5.heap.size w5 Y → Calls Tryz.prog 28 #[.slice b2' n4 d2] Y fun e w' => ∃ y:VC,e = .returned y.val ∧ Below Y.heap.size Y w' ∧ NewV Y.heap.size w' (textsJ x.repos) y.val):=fun Y hY => textsR_any x.repos _ Y ((xs2.keep hbw5).keep hY) (by omega)
     have HBO:=Lib.hid (fun Y => boolR_any x.term Y)
     have HNO:=Lib.hid (fun Y => numR_any x.thr Y)
     have HXX:=Lib.hid hx
     have HTHR:=Lib.hid hthr
     obtain ⟨l40,l41,l42,l43,l44,l4f⟩:=b5 (BlkAt.keep HLR.out hb5)
     have HX5':=HX5.out
     obtain ⟨mm,hmm⟩:∃ z,wr.heap.size = z:=⟨_,rfl⟩
     rw [hmm] at HX5'
     have HMM:=Lib.hid hmm
     obtain ⟨t0,t1,t2,t3,tf⟩:=b4' HX5'
     clear hx hpx hbx hn3 hn4 hb5 hw5 hthr xs1 xs2 hbw5 hb3 l0 l1
     have l0:=cell_keep HBf.out k0
     have l1:=cell_keep HBf.out k1
     go_wp2_with fail
     rw [← HW5.out]
     clear hmm
     refine wp_region_any (by kernel_rfl) ?_
     refine wpAny_puts [(0,some 26),(1,some 27),(2,some 28),(3,some 29),(4,some 30),(5,some 31),(6,some 32),(7,some 33),(8,some 34),(9,some 35),(10,some 36),(11,some 37),(12,some 38),(13,some 39),(14,some 40),(15,some 41),(16,some 42),(17,some 43)] 18 [19,20] (by kernel_rfl) (by kernel_rfl) (of_decide_eq_true (by kernel_rfl)) (fun w' => Below w5.heap.size w5 w') (rvD w5.heap.size lb mm (.slice ia f ic) x (.slice b1 n3 d1) (.slice b2' n4 d2)) rvD_keep (bel_drew (Below.refl _ _)) ?_ ?_
     ·refine PutSteps.at rfl (fun vs Y hG hdep K hK => ?_) ?_
      ·simp only [putsOf,List.foldl_cons,List.foldl_nil,Act.put,List.setIfInBounds_toArray,List.set_cons_zero,List.set_cons_succ] at hK ⊢
       go_simp
       exact hK.out (.pointer (some ⟨lb,4,none⟩)) _ _ rfl hG (Below.refl _ _) rfl
      refine PutSteps.at rfl (fun vs Y hG hdep K hK => ?_) ?_
      ·have e0:vs 0 = .pointer (some ⟨lb,4,none⟩):=hdep 0 rfl (by kernel_rfl)
       have y0:=cell_keep hG l44
       simp only [putsOf,List.foldl_cons,List.foldl_nil,Act.put,List.setIfInBounds_toArray,List.set_cons_zero,List.set_cons_succ] at hK ⊢
       rw [e0] at hK ⊢
       go_simp
       exact hK.out (.slice ia f ic) _ _ rfl hG (Below.refl _ _) rfl
      refine PutSteps.at rfl (fun vs Y hG hdep K hK => ?_) ?_
      ·simp only [putsOf,List.foldl_cons,List.foldl_nil,Act.put,List.setIfInBounds_toArray,List.set_cons_zero,List.set_cons_succ] at hK ⊢
       go_simp
       exact hK.out (.slice (some ⟨Y.heap.size,0,none⟩) 4 4) _ _ rfl (bel_alloc hG _) (bel_alloc (Below.refl _ _) _) ⟨Y.heap.size,rfl,hG.size,blkAt_newC _ _ _⟩
      refine PutSteps.at rfl (fun vs Y hG hdep K hK => ?_) ?_
      ·simp only [putsOf,List.foldl_cons,List.foldl_nil,Act.put,List.setIfInBounds_toArray,List.set_cons_zero,List.set_cons_succ] at hK ⊢
       go_simp
       exact hK.out (.pointer (some ⟨mm,0,none⟩)) _ _ rfl hG (Below.refl _ _) rfl
      refine PutSteps.at rfl (fun vs Y hG hdep K hK => ?_) ?_
      ·have e0:vs 3 = .pointer (some ⟨mm,0,none⟩):=hdep 3 rfl (by kernel_rfl)
       have y0:=cell_keep hG t0
       simp only [putsOf,List.foldl_cons,List.foldl_nil,Act.put,List.setIfInBounds_toArray,List.set_cons_zero,List.set_cons_succ] at hK ⊢
       rw [e0] at hK ⊢
       go_simp
       exact hK.out (.slice b1 n3 d1) _ _ rfl hG (Below.refl _ _) rfl
      refine PutSteps.at rfl (fun vs Y hG hdep K hK => ?_) ?_
      ·have e0:vs 4 = .slice b1 n3 d1:=hdep 4 rfl (by kernel_rfl)
       simp only [putsOf,List.foldl_cons,List.foldl_nil,Act.put,List.setIfInBounds_toArray,List.set_cons_zero,List.set_cons_succ] at hK ⊢
       rw [e0] at hK ⊢
       go_simp
       refine (HT1.out _ hG).mono ?_
       rintro e w4 ⟨⟨yk,yn,yt,ya,yl,yc,yb,ym,ye⟩,rfl,hb4,hv4⟩
       exact hK.out (.agg #[.int .u8 yk,.int .i64 yn,.string yt,.slice ya yl yc,.slice yb ym ye]) _ _ rfl (below_more hG hb4) hb4 ⟨⟨yk,yn,yt,ya,yl,yc,yb,ym,ye⟩,rfl,NewV.low hv4 hG.size⟩
      refine PutSteps.at rfl (fun vs Y hG hdep K hK => ?_) ?_
      ·simp only [putsOf,List.foldl_cons,List.foldl_nil,Act.put,List.setIfInBounds_toArray,List.set_cons_zero,List.set_cons_succ] at hK ⊢
       go_simp
       exact hK.out (.pointer (some ⟨mm,1,none⟩)) _ _ rfl hG (Below.refl _ _) rfl
      refine PutSteps.at rfl (fun vs Y hG hdep K hK => ?_) ?_
      ·have e0:vs 6 = .pointer (some ⟨mm,1,none⟩):=hdep 6 rfl (by kernel_rfl)
       have y0:=cell_keep hG t1
       simp only [putsOf,List.foldl_cons,List.foldl_nil,Act.put,List.setIfInBounds_toArray,List.set_cons_zero,List.set_cons_succ] at hK ⊢
       rw [e0] at hK ⊢
       go_simp
       exact hK.out (.slice b2' n4 d2) _ _ rfl hG (Below.refl _ _) rfl
      refine PutSteps.at rfl (fun vs Y hG hdep K hK => ?_) ?_
      ·have e0:vs 7 = .slice b2' n4 d2:=hdep 7 rfl (by kernel_rfl)
       simp only [putsOf,List.foldl_cons,List.foldl_nil,Act.put,List.setIfInBounds_toArray,List.set_cons_zero,List.set_cons_succ] at hK ⊢
       rw [e0] at hK ⊢
       go_simp
       refine (HT2.out _ hG).mono ?_
       rintro e w4 ⟨⟨yk,yn,yt,ya,yl,yc,yb,ym,ye⟩,rfl,hb4,hv4⟩
       exact hK.out (.agg #[.int .u8 yk,.int .i64 yn,.string yt,.slice ya yl yc,.slice yb ym ye]) _ _ rfl (below_more hG hb4) hb4 ⟨⟨yk,yn,yt,ya,yl,yc,yb,ym,ye⟩,rfl,NewV.low hv4 hG.size⟩
      refine PutSteps.at rfl (fun vs Y hG hdep K hK => ?_) ?_
      ·simp only [putsOf,List.foldl_cons,List.foldl_nil,Act.put,List.setIfInBounds_toArray,List.set_cons_zero,List.set_cons_succ] at hK ⊢
       go_simp
       exact hK.out (.pointer (some ⟨mm,2,none⟩)) _ _ rfl hG (Below.refl _ _) rfl
      refine PutSteps.at rfl (fun vs Y hG hdep K hK => ?_) ?_
      ·have e0:vs 9 = .pointer (some ⟨mm,2,none⟩):=hdep 9 rfl (by kernel_rfl)
       have y0:=cell_keep hG t2
       simp only [putsOf,List.foldl_cons,List.foldl_nil,Act.put,List.setIfInBounds_toArray,List.set_cons_zero,List.set_cons_succ] at hK ⊢
       rw [e0] at hK ⊢
       go_simp
       exact hK.out (.bool x.term) _ _ rfl hG (Below.refl _ _) rfl
      refine PutSteps.at rfl (fun vs Y hG hdep K hK => ?_) ?_
      ·have e0:vs 10 = .bool x.term:=hdep 10 rfl (by kernel_rfl)
       simp only [putsOf,List.foldl_cons,List.foldl_nil,Act.put,List.setIfInBounds_toArray,List.set_cons_zero,List.set_cons_succ] at hK ⊢
       rw [e0] at hK ⊢
       go_simp
       refine (HBO.out _).mono ?_
       rintro e w4 ⟨rfl,hb4⟩
       exact hK.out (.agg #[.int .u8 1,.int .i64 (if x.term = true then 1 else 0),.string ⟨#[]⟩,.slice none 0 0,.slice none 0 0]) _ _ rfl (below_more hG hb4) hb4 rfl
      refine PutSteps.at rfl (fun vs Y hG hdep K hK => ?_) ?_
      ·simp only [putsOf,List.foldl_cons,List.foldl_nil,Act.put,List.setIfInBounds_toArray,List.set_cons_zero,List.set_cons_succ] at hK ⊢
       go_simp
       exact hK.out (.pointer (some ⟨mm,3,none⟩)) _ _ rfl hG (Below.refl _ _) rfl
      refine PutSteps.at rfl (fun vs Y hG hdep K hK => ?_) ?_
      ·have e0:vs 12 = .pointer (some ⟨mm,3,none⟩):=hdep 12 rfl (by kernel_rfl)
       have y0:=cell_keep hG t3
       simp only [putsOf,List.foldl_cons,List.foldl_nil,Act.put,List.setIfInBounds_toArray,List.set_cons_zero,List.set_cons_succ] at hK ⊢
       rw [e0] at hK ⊢
       go_simp
       exact hK.out (.int .i64 x.thr) _ _ rfl hG (Below.refl _ _) rfl
      refine PutSteps.at rfl (fun vs Y hG hdep K hK => ?_) ?_
      ·have e0:vs 13 = .int .i64 x.thr:=hdep 13 rfl (by kernel_rfl)
       simp only [putsOf,List.foldl_cons,List.foldl_nil,Act.put,List.setIfInBounds_toArray,List.set_cons_zero,List.set_cons_succ] at hK ⊢
       rw [e0] at hK ⊢
       go_simp
       refine (HNO.out _).mono ?_
       rintro e w4 ⟨rfl,hb4⟩
       exact hK.out (.agg #[.int .u8 2,.int .i64 x.thr,.string ⟨#[]⟩,.slice none 0 0,.slice none 0 0]) _ _ rfl (below_more hG hb4) hb4 rfl
      refine PutSteps.at rfl (fun vs Y hG hdep K hK => ?_) ?_
      ·obtain ⟨⟨pk,pn,pt,pa,pl,pc,pb,pm,pe⟩,e0,hv0⟩:=show ∃ y:VC,vs 5 = y.val ∧ NewV w5.heap.size Y (textsJ x.paths) y.val from hdep 5 rfl (by kernel_rfl)
       obtain ⟨⟨rk,rn,rt,ra,rl,rc,rb,rm,re⟩,e1,hv1⟩:=show ∃ y:VC,vs 8 = y.val ∧ NewV w5.heap.size Y (textsJ x.repos) y.val from hdep 8 rfl (by kernel_rfl)
       have e2:vs 11 = .agg #[.int .u8 1,.int .i64 (if x.term = true then 1 else 0),.string ⟨#[]⟩,.slice none 0 0,.slice none 0 0]:=hdep 11 rfl (by kernel_rfl)
       have e3:vs 14 = .agg #[.int .u8 2,.int .i64 x.thr,.string ⟨#[]⟩,.slice none 0 0,.slice none 0 0]:=hdep 14 rfl (by kernel_rfl)
       simp only [VC.val] at e0 e1
       simp only [putsOf,List.foldl_cons,List.foldl_nil,Act.put,List.setIfInBounds_toArray,List.set_cons_zero,List.set_cons_succ] at hK ⊢
       rw [e0,e1,e2,e3] at hK ⊢
       go_simp
       exact hK.out (.slice (some ⟨Y.heap.size,0,none⟩) 4 4) _ _ rfl (bel_alloc hG _) (bel_alloc (Below.refl _ _) _) ⟨Y.heap.size,⟨pk,pn,pt,pa,pl,pc,pb,pm,pe⟩,⟨rk,rn,rt,ra,rl,rc,rb,rm,re⟩,rfl,hG.size,hv0.keepB (bel_alloc (Below.refl _ _) _),hv1.keepB (bel_alloc (Below.refl _ _) _),blkAt_newC _ _ _⟩
      refine PutSteps.at rfl (fun vs Y hG hdep K hK => ?_) ?_
      ·obtain ⟨nbk,e0,hn0,hn1⟩:=show ∃ b,vs 2 = .slice (some ⟨b,0,none⟩) 4 4 ∧ w5.heap.size ≤ b ∧ BlkAt Y b 9 #[.string tPaths,.string tRepos,.string tTerm,.string tThr] from hdep 2 rfl (by kernel_rfl)
       obtain ⟨ibk,p,r,e1,hi0,hv0,hv1,hi1⟩:=show ∃ (b:Nat) (p r:VC),vs 15 = .slice (some ⟨b,0,none⟩) 4 4 ∧ w5.heap.size ≤ b ∧ NewV w5.heap.size Y (textsJ x.paths) p.val ∧ NewV w5.heap.size Y (textsJ x.repos) r.val ∧ BlkAt Y b 31 (p.cells ++ (r.cells ++ ((boolC x.term).cells ++ (numC x.thr).cells))).toArray from hdep 15 rfl (by kernel_rfl)
       have hnew:=Lib.hid (mapgNew hn0 hi0 hn1 hi1 hv0 hv1 HTHR.out.1 HTHR.out.2)
       simp only [putsOf,List.foldl_cons,List.foldl_nil,Act.put,List.setIfInBounds_toArray,List.set_cons_zero,List.set_cons_succ] at hK ⊢
       rw [e0,e1] at hK ⊢
       clear hn0 hn1 hi0 hi1 hv0 hv1
       go_simp
       refine (object25_any _ _ _ _ _ _ _).mono ?_
       rintro e w4 ⟨rfl,hb4⟩
       exact hK.out (.agg #[.int .u8 5,.int .i64 0,.string ⟨#[]⟩,.slice (some ⟨nbk,0,none⟩) 4 4,.slice (some ⟨ibk,0,none⟩) 4 4]) _ _ rfl (below_more hG hb4) hb4 ⟨⟨5,0,⟨#[]⟩,some ⟨nbk,0,none⟩,4,4,some ⟨ibk,0,none⟩,4,4⟩,rfl,hnew.out.keepB hb4⟩
      refine PutSteps.at rfl (fun vs Y hG hdep K hK => ?_) PutSteps.nil
      ·obtain ⟨⟨yk,yn,yt,ya,yl,yc,yb,ym,ye⟩,e0,hv⟩:=show ∃ y:VC,vs 16 = y.val ∧ NewV w5.heap.size Y (mapgJ x) y.val from hdep 16 rfl (by kernel_rfl)
       simp only [VC.val] at e0
       simp only [putsOf,List.foldl_cons,List.foldl_nil,Act.put,List.setIfInBounds_toArray,List.set_cons_zero,List.set_cons_succ] at hK ⊢
       rw [e0] at hK ⊢
       go_simp
       exact hK.out (.slice (some ⟨Y.heap.size,0,none⟩) 1 1) _ _ rfl (bel_alloc hG _) (bel_alloc (Below.refl _ _) _) ⟨Y.heap.size,⟨yk,yn,yt,ya,yl,yc,yb,ym,ye⟩,rfl,blkAt_newC _ _ _,hv.keepB (bel_alloc (Below.refl _ _) _)⟩
     ·intro vs Y hG hdep
      have e0:vs 1 = .slice ia f ic:=hdep 1 rfl
      obtain ⟨bb,⟨yk,yn,yt,ya,yl,yc,yb,ym,ye⟩,e7,hB7,hv7⟩:=show ∃ (b:Nat) (y:VC),vs 17 = .slice (some ⟨b,0,none⟩) 1 1 ∧ BlkAt Y b 31 y.cells.toArray ∧ NewV w5.heap.size Y (mapgJ x) y.val from hdep 17 rfl
      simp only [putsOf,List.foldl_cons,List.foldl_nil,Act.put,List.setIfInBounds_toArray,List.set_cons_zero,List.set_cons_succ]
      simp only [List.filterMap_cons,List.filterMap_nil,nthO]
      rw [e0,e7]
      have hrY:Below wr.heap.size wr Y:=below_more HB5.out hG
      have hoY:=(ItemsOwn.keepW HIr.out hrY).1
      rw [hys] at hoY
      have hsY:=hrY.size
      have hlY:=BlkAt.keep HLR.out hrY
      refine wpList_step fun K hK => ?_
      refine step_append_lies Y rfl _ _ _ rfl w2.heap.size 31 i0 _ 5 80 Tryz.underlying29 HI.out HZ0.out HZ1.out HZ2.out rfl (by decide) (.slice ia f ic) f (xiCells ys) rfl hoY ⟨bb,0,none⟩ 1 1 [.int .u8 yk,.int .i64 yn,.string yt,.slice ya yl yc,.slice yb ym ye] rfl rfl (World.news_of_block (cs:=#[.int .u8 yk,.int .i64 yn,.string yt,.slice ya yl yc,.slice yb ym ye]) (t:=31) (fr:=(0,0)) hB7) (by intro u hu; simp only [List.mem_cons,List.not_mem_nil,or_false] at hu; rcases hu with rfl | rfl | rfl | rfl | rfl <;> rfl) (by decide) (by unfold maxLen; omega) (by omega) (by omega) Y.heap.size rfl ?_
      intro gg cp' w6 hown6 hgrow hat hlt
      refine hK _ _ ?_
      have hne6:∀ k,k < w2.heap.size → some k ≠ (Value.slice ia f ic).ownBlock:=fun k hk e => by
       have:=(World.ownsRow.lt hoY k e.symm).1
       omega
      have hlbw:lb < w2.heap.size:=by omega
      have hl6:=BlkAt.grown hlY hgrow (hne6 lb hlbw)
      have hI6:ItemsOwn w6 w2.heap.size (.slice (some ⟨gg,0,none⟩) (f + 1) cp') (ys ++ [(⟨yk,yn,yt,ya,yl,yc,yb,ym,ye⟩,mapgJ x)]) :=
       ItemsOwn.snoc HIr.out (NewV.low hv7 HB5.out.size) hszr hsY (hat.elim (fun e => Or.inl e.symm) (fun e => Or.inr ⟨gg,rfl,by omega⟩)) (by rw [hys]; exact hown6) (fun k hk _ hne => hgrow.block k hk (fun e => hne e.symm)) (fun k hk _ => hrY.block k hk)
      have hb6:Below w1.heap.size w1 w6:=(below_more HBf.out hrY).grown hgrow (by have:=HBf.out.size; omega) (fun k hk => by have:=(World.ownsRow.lt hoY k hk).1; have:=HB2.out.size; omega)
      have HI9:=Lib.hid (hI6.set hlbw 4 (.slice (some ⟨gg,0,none⟩) (f + 1) cp'))
      have HL9:=Lib.hid (hl6.set 4 (.slice (some ⟨gg,0,none⟩) (f + 1) cp'))
      have HB9:Hid (Below w1.heap.size w1 (w6.setCell ⟨lb,4,none⟩ (.slice (some ⟨gg,0,none⟩) (f + 1) cp'))):=bel_set hb6 (by show w1.heap.size ≤ lb; rw [HLBE.out]; exact Nat.le_refl _) _
      have HS9:Hid (w2.heap.size ≤ (w6.setCell ⟨lb,4,none⟩ (.slice (some ⟨gg,0,none⟩) (f + 1) cp')).heap.size):=by show _ ≤ _; rw [setCell_size]; have:=hgrow.size; omega
      have HX9:Hid ((ys ++ [((⟨yk,yn,yt,ya,yl,yc,yb,ym,ye⟩:VC),mapgJ x)]).map Prod.snd = (ms.take (f + 1)).map mapgJ):=by
       show _ = _
       rw [List.map_append,HYS.out,List.take_add_one,HXX.out]
       simp
      have hl9:(ys ++ [((⟨yk,yn,yt,ya,yl,yc,yb,ym,ye⟩:VC),mapgJ x)]).length = f + 1:=by rw [List.length_append,hys]; rfl
      obtain ⟨r0,r1,r2,r3,r4,rf⟩:=b5 hl6
      clear hown6 hgrow hat hlt hdep hv7 hB7 e0 e7 hoY hrY hsY hlY hne6 hlbw hl6 hI6 hb6 hG
      refine wpList_plain rfl fun K hK => ?_
      go_simp
      refine hK _ _ ?_
      refine wpList_plain rfl fun K hK => ?_
      go_simp
      refine hK _ _ ?_
      refine wpList_nil ?_
      clear r0 r1 r2 r3 r4 rf
      generalize w6.setCell ⟨lb,4,none⟩ (.slice (some ⟨gg,0,none⟩) (f + 1) cp') = w9 at HI9 HL9 HB9 HS9 ⊢
      go_wp2_with fail
      exact ⟨⟨f + 1,_,some ⟨gg,0,none⟩,cp',by omega,by go_num,hl9,HX9,HL9,HI9,HB9,HS9.out⟩,by simp [intOf]; omega⟩
    ·obtain rfl:f = n2:=by omega
     have i1'':¬ (f:Int) < (f:Int):=by omega
     have hyv:ys.map Prod.snd = ms.map mapgJ:=by
      have:=HYS.out
      rwa [List.take_of_length_le (by rw [HN2.out]; exact Nat.le_refl _)] at this
     have HITM:Hid (ItemsAt (hidden (offB w2.heap.size none) wr) (.slice ia f ic) (ms.map mapgJ)):=by
      have h1:=HIr.out.out (by omega)
      rw [hyv] at h1
      exact h1
     have HBE:=Lib.hid (below_more HB1.out HBf.out)
     have HBf1:=HBf
     have HNA:=Lib.hid (names25_any M n1 (by rw [HRS.out]; exact HN1.out) _ wr (HMH.out.keep HBE.out) (by omega))
     have HLE:=HLR
     have hb2w:w.heap.size + 2 ≤ w2.heap.size:=by have:=HLBE.out; omega
     have hszE:=hszr
     clear hyv HYS HIr
     go_wp2_with fail
     refine HNA.out.mono ?_
     rintro e w3 ⟨hb3,na,nc,rfl,-,hsn⟩
     rw [HRS.out] at hsn
     have HB3:=Lib.hid hb3
     have HSN:=Lib.hid hsn
     have HB03:=Lib.hid (below_more HBE.out hb3)
     obtain ⟨w4,hw4⟩:∃ y,y = w3.alloc (.cells #[.int .u8 5,.int .i64 0,.string ⟨#[]⟩,.slice na n1 nc,.slice none 0 0] 31):=⟨_,rfl⟩
     have hb4:Below w3.heap.size w3 w4:=by rw [hw4]; exact bel_alloc (Below.refl _ _) _
     have HRBK:Hid (BlkAt w4 w3.heap.size 31 #[.int .u8 5,.int .i64 0,.string ⟨#[]⟩,.slice na n1 nc,.slice none 0 0]):=by rw [hw4]; exact blkAt_new w3 _ _
     have hs4:w4.heap.size = w3.heap.size + 1:=by rw [hw4,size_al]
     have HW4:=Lib.hid hw4
     have HB4:=Lib.hid hb4
     obtain ⟨rb,hrb⟩:∃ z,w3.heap.size = z:=⟨_,rfl⟩
     rw [hrb] at HRBK hs4
     have HRBE:=Lib.hid hrb
     have HL03:=Lib.hid (BlkAt.keep HL0.out (below_more HBf.out hb3))
     obtain ⟨k0,k1,kf⟩:=b2 HL03.out
     clear hb3 hsn hw4 hb4 HNA l0 l1
     go_wp2_with fail
     rw [← HW4.out]
     clear hrb
     go_loopw [8] (fun i wr => ∃ (g:Nat) (zs:List XI) (ja:Option Addr) (jc:Nat),g ≤ n1 ∧ i = .int .i64 g ∧ zs.length = g ∧ Hid (zs.map Prod.snd = (rs.take g).map fun r => textsJ r.2) ∧ Hid (BlkAt wr rb 31 #[.int .u8 5,.int .i64 0,.string ⟨#[]⟩,.slice na n1 nc,.slice ja g jc]) ∧ Hid (ItemsOwn wr w4.heap.size (.slice ja g jc) zs) ∧ Hid (Below w3.heap.size w3 wr) ∧ w4.heap.size ≤ wr.heap.size) (fun i _ => n1 - (intOf i).toNat)
     case atStart => exact ⟨0,[],none,0,by omega,rfl,rfl,rfl,HRBK.out,ItemsOwn.nil _ _,HB4.out,Nat.le_refl _⟩
     case round =>
      obtain ⟨g,zs,ja,jc,hg,rfl,hzs,HZS,HLR,HIr,HBg,hszr⟩:=hrel
      have l0:=cell_keep HBg.out k0
      by_cases hgn:g < n1
      ·obtain ⟨r,hr⟩:∃ s,rs[g]? = some s:=⟨_,List.getElem?_eq_getElem (by rw [HN1.out]; exact hgn)⟩
       obtain ⟨xb,xo,ua,uc,rfl,-,u1,-,us1⟩:=HRC.out g r hr
       have hbx:=HBD.out.1 r (List.mem_of_getElem? hr)
       have HBr:=Lib.hid (below_more HB03.out HBg.out)
       have u1:=cell_keep HBr.out u1
       have i0':(0:Int) ≤ (g:Int):=by omega
       have i1':(g:Int) < (n1:Int):=by omega
       have hlen:r.2.length ≤ 1000000:=by omega
       obtain ⟨ul,hul⟩:∃ z,r.2.length = z:=⟨_,rfl⟩
       rw [hul] at u1 us1
       have HT1:Hid (∀ Y,Below wr.heap.size wr Y → Calls Tryz.prog 28 #[.slice ua ul uc] Y fun e w' => ∃ y:VC,e = .returned y.val ∧ Below Y.heap.size Y w' ∧ NewV Y.heap.size w' (textsJ r.2) y.val):=fun Y hY => textsR_any r.2 _ Y ((us1.keep HBr.out).keep hY) hlen
       have HRR:=Lib.hid hr
       obtain ⟨l40,l41,l42,l43,l44,l4f⟩:=b5 HLR.out
       clear hr hbx hul us1 hlen
       go_wp2_with fail
       refine wp_region_any (by kernel_rfl) ?_
       refine wpAny_puts [(0,some 56),(1,some 57),(2,some 58),(3,some 59),(4,some 60),(5,some 61),(6,some 62),(7,some 63),(8,some 64),(9,some 65)] 10 [11,12] (by kernel_rfl) (by kernel_rfl) (of_decide_eq_true (by kernel_rfl)) (fun w' => Below wr.heap.size wr w') (rwD wr.heap.size rb w.heap.size (.slice ja g jc) (.slice (some ⟨xb,xo,none⟩) n1 c1) g xb xo (.slice ua ul uc) r.2) rwD_keep (bel_drew (Below.refl _ _)) ?_ ?_
       ·refine PutSteps.at rfl (fun vs Y hG hdep K hK => ?_) ?_
        ·simp only [putsOf,List.foldl_cons,List.foldl_nil,Act.put,List.setIfInBounds_toArray,List.set_cons_zero,List.set_cons_succ] at hK ⊢
         go_simp
         exact hK.out (.pointer (some ⟨rb,4,none⟩)) _ _ rfl hG (Below.refl _ _) rfl
        refine PutSteps.at rfl (fun vs Y hG hdep K hK => ?_) ?_
        ·have e0:vs 0 = .pointer (some ⟨rb,4,none⟩):=hdep 0 rfl (by kernel_rfl)
         have y0:=cell_keep hG l44
         simp only [putsOf,List.foldl_cons,List.foldl_nil,Act.put,List.setIfInBounds_toArray,List.set_cons_zero,List.set_cons_succ] at hK ⊢
         rw [e0] at hK ⊢
         go_simp
         exact hK.out (.slice ja g jc) _ _ rfl hG (Below.refl _ _) rfl
        refine PutSteps.at rfl (fun vs Y hG hdep K hK => ?_) ?_
        ·simp only [putsOf,List.foldl_cons,List.foldl_nil,Act.put,List.setIfInBounds_toArray,List.set_cons_zero,List.set_cons_succ] at hK ⊢
         go_simp
         exact hK.out (.pointer (some ⟨w.heap.size,0,none⟩)) _ _ rfl hG (Below.refl _ _) rfl
        refine PutSteps.at rfl (fun vs Y hG hdep K hK => ?_) ?_
        ·have e0:vs 2 = .pointer (some ⟨w.heap.size,0,none⟩):=hdep 2 rfl (by kernel_rfl)
         have y0:=cell_keep hG l0
         simp only [putsOf,List.foldl_cons,List.foldl_nil,Act.put,List.setIfInBounds_toArray,List.set_cons_zero,List.set_cons_succ] at hK ⊢
         rw [e0] at hK ⊢
         go_simp
         exact hK.out (.slice (some ⟨xb,xo,none⟩) n1 c1) _ _ rfl hG (Below.refl _ _) rfl
        refine PutSteps.at rfl (fun vs Y hG hdep K hK => ?_) ?_
        ·simp only [putsOf,List.foldl_cons,List.foldl_nil,Act.put,List.setIfInBounds_toArray,List.set_cons_zero,List.set_cons_succ] at hK ⊢
         go_simp
         exact hK.out (.int .i64 g) _ _ rfl hG (Below.refl _ _) rfl
        refine PutSteps.at rfl (fun vs Y hG hdep K hK => ?_) ?_
        ·have e0:vs 3 = .slice (some ⟨xb,xo,none⟩) n1 c1:=hdep 3 rfl (by kernel_rfl)
         have e1:vs 4 = .int .i64 g:=hdep 4 rfl (by kernel_rfl)
         simp only [putsOf,List.foldl_cons,List.foldl_nil,Act.put,List.setIfInBounds_toArray,List.set_cons_zero,List.set_cons_succ] at hK ⊢
         rw [e0,e1] at hK ⊢
         go_simp
         exact hK.out (.pointer (some ⟨xb,xo + g * 2,none⟩)) _ _ rfl hG (Below.refl _ _) rfl
        refine PutSteps.at rfl (fun vs Y hG hdep K hK => ?_) ?_
        ·have e0:vs 5 = .pointer (some ⟨xb,xo + g * 2,none⟩):=hdep 5 rfl (by kernel_rfl)
         simp only [putsOf,List.foldl_cons,List.foldl_nil,Act.put,List.setIfInBounds_toArray,List.set_cons_zero,List.set_cons_succ] at hK ⊢
         rw [e0] at hK ⊢
         go_simp
         exact hK.out (.pointer (some ⟨xb,xo + g * 2 + 1,none⟩)) _ _ rfl hG (Below.refl _ _) rfl
        refine PutSteps.at rfl (fun vs Y hG hdep K hK => ?_) ?_
        ·have e0:vs 6 = .pointer (some ⟨xb,xo + g * 2 + 1,none⟩):=hdep 6 rfl (by kernel_rfl)
         have y0:=cell_keep hG u1
         simp only [putsOf,List.foldl_cons,List.foldl_nil,Act.put,List.setIfInBounds_toArray,List.set_cons_zero,List.set_cons_succ] at hK ⊢
         rw [e0] at hK ⊢
         go_simp
         exact hK.out (.slice ua ul uc) _ _ rfl hG (Below.refl _ _) rfl
        refine PutSteps.at rfl (fun vs Y hG hdep K hK => ?_) ?_
        ·have e0:vs 7 = .slice ua ul uc:=hdep 7 rfl (by kernel_rfl)
         simp only [putsOf,List.foldl_cons,List.foldl_nil,Act.put,List.setIfInBounds_toArray,List.set_cons_zero,List.set_cons_succ] at hK ⊢
         rw [e0] at hK ⊢
         go_simp
         refine (HT1.out _ hG).mono ?_
         rintro e w4 ⟨⟨yk,yn,yt,ya,yl,yc,yb,ym,ye⟩,rfl,hb4,hv4⟩
         exact hK.out (.agg #[.int .u8 yk,.int .i64 yn,.string yt,.slice ya yl yc,.slice yb ym ye]) _ _ rfl (below_more hG hb4) hb4 ⟨⟨yk,yn,yt,ya,yl,yc,yb,ym,ye⟩,rfl,NewV.low hv4 hG.size⟩
        refine PutSteps.at rfl (fun vs Y hG hdep K hK => ?_) PutSteps.nil
        ·obtain ⟨⟨yk,yn,yt,ya,yl,yc,yb,ym,ye⟩,e0,hv⟩:=show ∃ y:VC,vs 8 = y.val ∧ NewV wr.heap.size Y (textsJ r.2) y.val from hdep 8 rfl (by kernel_rfl)
         simp only [VC.val] at e0
         simp only [putsOf,List.foldl_cons,List.foldl_nil,Act.put,List.setIfInBounds_toArray,List.set_cons_zero,List.set_cons_succ] at hK ⊢
         rw [e0] at hK ⊢
         go_simp
         exact hK.out (.slice (some ⟨Y.heap.size,0,none⟩) 1 1) _ _ rfl (bel_alloc hG _) (bel_alloc (Below.refl _ _) _) ⟨Y.heap.size,⟨yk,yn,yt,ya,yl,yc,yb,ym,ye⟩,rfl,blkAt_newC _ _ _,hv.keepB (bel_alloc (Below.refl _ _) _)⟩
       ·intro vs Y hG hdep
        have e0:vs 1 = .slice ja g jc:=hdep 1 rfl
        obtain ⟨bb,⟨yk,yn,yt,ya,yl,yc,yb,ym,ye⟩,e7,hB7,hv7⟩:=show ∃ (b:Nat) (y:VC),vs 9 = .slice (some ⟨b,0,none⟩) 1 1 ∧ BlkAt Y b 31 y.cells.toArray ∧ NewV wr.heap.size Y (textsJ r.2) y.val from hdep 9 rfl
        simp only [putsOf,List.foldl_cons,List.foldl_nil,Act.put,List.setIfInBounds_toArray,List.set_cons_zero,List.set_cons_succ]
        simp only [List.filterMap_cons,List.filterMap_nil,nthO]
        rw [e0,e7]
        have hrY:Below wr.heap.size wr Y:=hG
        have hoY:=(ItemsOwn.keepW HIr.out hrY).1
        rw [hzs] at hoY
        have hsY:=hrY.size
        have hlY:=BlkAt.keep HLR.out hrY
        refine wpList_step fun K hK => ?_
        refine step_append_lies Y rfl _ _ _ rfl w4.heap.size 31 i0 _ 5 80 Tryz.underlying29 HI.out HZ0.out HZ1.out HZ2.out rfl (by decide) (.slice ja g jc) g (xiCells zs) rfl hoY ⟨bb,0,none⟩ 1 1 [.int .u8 yk,.int .i64 yn,.string yt,.slice ya yl yc,.slice yb ym ye] rfl rfl (World.news_of_block (cs:=#[.int .u8 yk,.int .i64 yn,.string yt,.slice ya yl yc,.slice yb ym ye]) (t:=31) (fr:=(0,0)) hB7) (by intro u hu; simp only [List.mem_cons,List.not_mem_nil,or_false] at hu; rcases hu with rfl | rfl | rfl | rfl | rfl <;> rfl) (by decide) (by unfold maxLen; omega) (by omega) (by omega) Y.heap.size rfl ?_
        intro gg cp' w6 hown6 hgrow hat hlt
        refine hK _ _ ?_
        have hne6:∀ k,k < w4.heap.size → some k ≠ (Value.slice ja g jc).ownBlock:=fun k hk e => by
         have:=(World.ownsRow.lt hoY k e.symm).1
         omega
        have hrbw:rb < w4.heap.size:=by omega
        have hl6:=BlkAt.grown hlY hgrow (hne6 rb hrbw)
        have hI6:ItemsOwn w6 w4.heap.size (.slice (some ⟨gg,0,none⟩) (g + 1) cp') (zs ++ [(⟨yk,yn,yt,ya,yl,yc,yb,ym,ye⟩,textsJ r.2)]) :=
         ItemsOwn.snoc HIr.out (hv7) hszr hsY (hat.elim (fun e => Or.inl e.symm) (fun e => Or.inr ⟨gg,rfl,by omega⟩)) (by rw [hzs]; exact hown6) (fun k hk _ hne => hgrow.block k hk (fun e => hne e.symm)) (fun k hk _ => hrY.block k hk)
        have hb6:Below w3.heap.size w3 w6:=(below_more HBg.out hrY).grown hgrow (by have:=HBg.out.size; omega) (fun k hk => by have:=(World.ownsRow.lt hoY k hk).1; have:=HB4.out.size; omega)
        have HI9:=Lib.hid (hI6.set hrbw 4 (.slice (some ⟨gg,0,none⟩) (g + 1) cp'))
        have HL9:=Lib.hid (hl6.set 4 (.slice (some ⟨gg,0,none⟩) (g + 1) cp'))
        have HB9:Hid (Below w3.heap.size w3 (w6.setCell ⟨rb,4,none⟩ (.slice (some ⟨gg,0,none⟩) (g + 1) cp'))):=bel_set hb6 (by show w3.heap.size ≤ rb; rw [HRBE.out]; exact Nat.le_refl _) _
        have HS9:Hid (w4.heap.size ≤ (w6.setCell ⟨rb,4,none⟩ (.slice (some ⟨gg,0,none⟩) (g + 1) cp')).heap.size):=by show _ ≤ _; rw [setCell_size]; have:=hgrow.size; omega
        have HX9:Hid ((zs ++ [((⟨yk,yn,yt,ya,yl,yc,yb,ym,ye⟩:VC),textsJ r.2)]).map Prod.snd = (rs.take (g + 1)).map fun r => textsJ r.2):=by
         show _ = _
         rw [List.map_append,HZS.out,List.take_add_one,HRR.out]
         simp
        have hl9:(zs ++ [((⟨yk,yn,yt,ya,yl,yc,yb,ym,ye⟩:VC),textsJ r.2)]).length = g + 1:=by rw [List.length_append,hzs]; rfl
        obtain ⟨r0,r1,r2,r3,r4,rf⟩:=b5 hl6
        clear hown6 hgrow hat hlt hdep hv7 hB7 e0 e7 hoY hrY hsY hlY hne6 hrbw hl6 hI6 hb6 hG
        refine wpList_plain rfl fun K hK => ?_
        go_simp
        refine hK _ _ ?_
        refine wpList_plain rfl fun K hK => ?_
        go_simp
        refine hK _ _ ?_
        refine wpList_nil ?_
        clear r0 r1 r2 r3 r4 rf
        generalize w6.setCell ⟨rb,4,none⟩ (.slice (some ⟨gg,0,none⟩) (g + 1) cp') = w9 at HI9 HL9 HB9 HS9 ⊢
        go_wp2_with fail
        exact ⟨⟨g + 1,_,some ⟨gg,0,none⟩,cp',by omega,by go_num,hl9,HX9,HL9,HI9,HB9,HS9.out⟩,by simp [intOf]; omega⟩
      ·obtain rfl:g = n1:=by omega
       have i1':¬ (g:Int) < (g:Int):=by omega
       have hzv:zs.map Prod.snd = rs.map fun r => textsJ r.2:=by
        have:=HZS.out
        rwa [List.take_of_length_le (by rw [HN1.out]; exact Nat.le_refl _)] at this
       have HITR:Hid (ItemsAt (hidden (offB w4.heap.size none) wr) (.slice ja g jc) (rs.map fun r => textsJ r.2)):=by
        have h1:=HIr.out.out (by omega)
        rw [hzv] at h1
        exact h1
       have HBE2:=Lib.hid (below_more HB3.out HBg.out)
       have HLBr:=Lib.hid (BlkAt.keep HLE.out HBE2.out)
       have HBZ:=Lib.hid (below_more HB03.out HBg.out)
       have HITMr:=Lib.hid (ItemsAt.carry HITM.out fun k hk hP => ⟨hP,HBE2.out.block k hk⟩)
       have HSNr:=Lib.hid (HSN.out.imp (hid_imp fun k hk hP => ⟨hP,HBg.out.block k hk⟩))
       obtain ⟨wA,hwA⟩:∃ y,y = wr.alloc (.cells #[.string ⟨#[109,97,112,112,105,110,103]⟩,.string ⟨#[114,101,112,111,115,105,116,111,114,105,101,115]⟩] 9):=⟨_,rfl⟩
       obtain ⟨wB,hwB⟩:∃ y,y = wA.alloc (.cells #[.int .u8 4,.int .i64 0,.string ⟨#[]⟩,.slice none 0 0,.slice ia f ic,.int .u8 5,.int .i64 0,.string ⟨#[]⟩,.slice na g nc,.slice ja g jc] 31):=⟨_,rfl⟩
       have hbA:Below wr.heap.size wr wA:=by rw [hwA]; exact bel_alloc (Below.refl _ _) _
       have hbB:Below wA.heap.size wA wB:=by rw [hwB]; exact bel_alloc (Below.refl _ _) _
       have hsA:wA.heap.size = wr.heap.size + 1:=by rw [hwA,size_al]
       have HNB:Hid (BlkAt wB wr.heap.size 9 #[.string ⟨#[109,97,112,112,105,110,103]⟩,.string ⟨#[114,101,112,111,115,105,116,111,114,105,101,115]⟩]):=BlkAt.keep (by rw [hwA]; exact blkAt_new wr _ _) hbB
       have HIB:Hid (BlkAt wB (wr.heap.size + 1) 31 #[.int .u8 4,.int .i64 0,.string ⟨#[]⟩,.slice none 0 0,.slice ia f ic,.int .u8 5,.int .i64 0,.string ⟨#[]⟩,.slice na g nc,.slice ja g jc]):=by
        have h1:=blkAt_new wA #[.int .u8 4,.int .i64 0,.string ⟨#[]⟩,.slice none 0 0,.slice ia f ic,.int .u8 5,.int .i64 0,.string ⟨#[]⟩,.slice na g nc,.slice ja g jc] 31
        rw [hsA,← hwB] at h1
        exact h1
       have hbAB:=below_more hbA hbB
       have HBAB:=Lib.hid hbAB
       have hwz:w.heap.size + 2 ≤ wr.heap.size:=by have:=HBE2.out.size; omega
       have hE3:=HB3.out.size
       have hE4:=HB4.out.size
       have HNEW:Hid (NewV (w.heap.size + 2) wB (chartJ M) (.agg #[.int .u8 5,.int .i64 0,.string ⟨#[]⟩,.slice (some ⟨wr.heap.size,0,none⟩) 2 2,.slice (some ⟨wr.heap.size + 1,0,none⟩) 2 2])):=by
        show NewV _ _ (.mk 5 0 ⟨#[]⟩ [tMapping,tRepos] [listJ (M.maps.map mapgJ),reposJ M.repos]) _
        rw [HRS.out,HMS.out]
        have hc:∀ i u,(#[.int .u8 4,.int .i64 0,.string ⟨#[]⟩,.slice none 0 0,.slice ia f ic,.int .u8 5,.int .i64 0,.string ⟨#[]⟩,.slice na g nc,.slice ja g jc]:Array Value)[i]? = some u → (hidden (offB (w.heap.size + 2) none) wB).cell? ⟨wr.heap.size + 1,i,none⟩ = some u:=fun i u hu => hid_blk (by omega) HIB.out hu
        have hi1:ItemsAt (hidden (offB (w.heap.size + 2) none) wB) (.slice ia f ic) (ms.map mapgJ):=ItemsAt.carry HITMr.out fun k hk hP => ⟨offB_none.2 (by have:=offB_none.1 hP; omega),hbAB.block k hk⟩
        have hi2:ItemsAt (hidden (offB (w.heap.size + 2) none) wB) (.slice ja g jc) (rs.map fun r => textsJ r.2):=ItemsAt.carry HITR.out fun k hk hP => ⟨offB_none.2 (by have:=offB_none.1 hP; omega),hbAB.block k hk⟩
        have hn2:StrsAt (hidden (offB (w.heap.size + 2) none) wB) (.slice na g nc) (namesR rs):=HSNr.out.imp (hid_imp fun k hk hP => ⟨offB_none.2 (by have:=offB_none.1 hP; omega),hbAB.block k hk⟩)
        refine valAt_mk (by decide) (by decide) (by decide) (by decide) (by decide) (strsAt_of (by decide) (by decide) (fun i s hs => ?_) rfl) (itemsAt_of (by show 2 ≤ _; decide) ?_ rfl)
        ·match i,hs with
         | 0,hs => cases hs; exact hid_blk (by omega) HNB.out rfl
         | 1,hs => cases hs; exact hid_blk (by omega) HNB.out rfl
         | i + 2,hs => simp at hs
        ·refine rowAt_cons (valAt_mk (by decide) (by decide) (by decide) (by decide) (by decide) (strsAt_nil _) hi1) (hc 0 _ rfl) (hc 1 _ rfl) (hc 2 _ rfl) (hc 3 _ rfl) (hc 4 _ rfl) ?_
         exact rowAt_cons (valAt_mk (by decide) (by decide) (by decide) (by decide) (by decide) hn2 hi2) (hc 5 _ rfl) (hc 6 _ rfl) (hc 7 _ rfl) (hc 8 _ rfl) (hc 9 _ rfl) (rowAt_nil _ _ _)
       obtain ⟨l40,l41,l42,l43,l44,l4f⟩:=b5 (BlkAt.keep HLBr.out hbA)
       obtain ⟨m40,m41,m42,m43,m44,m4f⟩:=b5 (BlkAt.keep HLR.out hbA)
       rw [hwA] at l40 l41 l42 l43 l44 m40 m41 m42 m43 m44
       have hL1:=BlkAt.keep (BlkAt.keep HL1.out (below_more HBf1.out HBE2.out)) hbAB
       have HLB:=Lib.hid hL1
       have HBB:=Lib.hid (below_more HBZ.out hbAB)
       have HWB:Hid (wB = (wr.alloc (.cells #[.string ⟨#[109,97,112,112,105,110,103]⟩,.string ⟨#[114,101,112,111,115,105,116,111,114,105,101,115]⟩] 9)).alloc (.cells #[.int .u8 4,.int .i64 0,.string ⟨#[]⟩,.slice none 0 0,.slice ia f ic,.int .u8 5,.int .i64 0,.string ⟨#[]⟩,.slice na g nc,.slice ja g jc] 31)):=by show _ = _; rw [hwB,hwA]
       clear hzv HZS HIr hwA hwB hbA hbB hsA hbAB hE3 hE4 hL1 l4f m4f
       go_wp2_with fail
       rw [← HWB.out]
       refine (object25_any _ _ _ _ _ _ _).mono ?_
       rintro e w8 ⟨rfl,hb8⟩
       have hR:=BlkAt.keep HLB.out hb8
       obtain ⟨z0,z1,z2,z3,z4,zf⟩:=b5 hR
       have hv8:=HNEW.out.keepB hb8
       have HNV:Hid (NewV w.heap.size (((((w8.setCell ⟨w.heap.size + 1,0,none⟩ (.int .u8 5)).setCell ⟨w.heap.size + 1,1,none⟩ (.int .i64 0)).setCell ⟨w.heap.size + 1,2,none⟩ (.string ⟨#[]⟩)).setCell ⟨w.heap.size + 1,3,none⟩ (.slice (some ⟨wr.heap.size,0,none⟩) 2 2)).setCell ⟨w.heap.size + 1,4,none⟩ (.slice (some ⟨wr.heap.size + 1,0,none⟩) 2 2)) (chartJ M) (.agg #[.int .u8 5,.int .i64 0,.string ⟨#[]⟩,.slice (some ⟨wr.heap.size,0,none⟩) 2 2,.slice (some ⟨wr.heap.size + 1,0,none⟩) 2 2])) :=
        ValAt.carry hv8 fun k hk hP => ⟨offB_none.2 (by have:=offB_none.1 hP; omega),heap_set5 _ _ _ _ _ _ _ _ (by have:=offB_none.1 hP; omega)⟩
       have HR5:=Lib.hid (blk_set5 hR (.int .u8 5) (.int .i64 0) (.string ⟨#[]⟩) (.slice (some ⟨wr.heap.size,0,none⟩) 2 2) (.slice (some ⟨wr.heap.size + 1,0,none⟩) 2 2))
       have HB5:=Lib.hid (bset5 (below_more HBB.out hb8) (Nat.le_succ _) (.int .u8 5) (.int .i64 0) (.string ⟨#[]⟩) (.slice (some ⟨wr.heap.size,0,none⟩) 2 2) (.slice (some ⟨wr.heap.size + 1,0,none⟩) 2 2))
       obtain ⟨q0,q1,q2,q3,q4,-⟩:=b5 HR5.out
       clear hR hb8 hv8
       go_wp2_with fail
       exact bodyPost_ret (v:=.tuple #[.agg #[.int .u8 5,.int .i64 0,.string ⟨#[]⟩,.slice (some ⟨wr.heap.size,0,none⟩) 2 2,.slice (some ⟨wr.heap.size + 1,0,none⟩) 2 2],.int .i64 0]) (by simp [results,Tryz.results8,go_sem,q0,q1,q2,q3,q4]) rfl ⟨HB5.out,by first | exact ⟨⟨5,0,⟨#[]⟩,some ⟨wr.heap.size,0,none⟩,2,2,some ⟨wr.heap.size + 1,0,none⟩,2,2⟩,rfl,HNV.out⟩ | exact Or.inr ⟨rfl,⟨⟨5,0,⟨#[]⟩,some ⟨wr.heap.size,0,none⟩,2,2,some ⟨wr.heap.size + 1,0,none⟩,2,2⟩,rfl,HNV.out⟩⟩⟩
end
end Go.Proofs.YtkphgjkflhjfjaaGreatDoor
