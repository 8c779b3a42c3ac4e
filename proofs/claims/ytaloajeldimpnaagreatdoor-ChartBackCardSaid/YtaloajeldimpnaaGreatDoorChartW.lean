/-
 slices.Clone and slices.SortFunc at the members of pick.ObjectOf.
-/
import Derived.Test.YtaloajeldimpnaaGreatDoorChartV2
import Derived.Test.YtaloajeldimpnaaGreatDoorReadSorted
import Derived.Test.YtaloajeldimpnaaGreatDoorShelfD
import Derived.Test.YtaloajeldimpnaaGreatDoorShelfE
namespace Go.Proofs.YtaloajeldimpnaaGreatDoor
set_option maxRecDepth 100000
open Go.RowKit Go.WideMaps Go.Maps Go.Shelf
def MemsAt (w:World) (v:Value) (xs:List XM):Prop:=∃ b o c,v = .slice (some ⟨b,o,none⟩) xs.length c ∧ (∀ i x,xs[i]? = some x → ∀ j u,x.cells[j]? = some u → w.cell? ⟨b,o + i * 6 + j,none⟩ = some u) ∧ ∀ x ∈ xs,ValAt (pureW w) x.V x.c.val ∧ x.name.size ≤ maxLen
theorem MemsAt.keep {w w':World} {v:Value} {xs:List XM} (h:MemsAt w v xs) (hb:Below w.heap.size w w'):MemsAt w' v xs:=by
 obtain ⟨b,o,c,e,h1,h2⟩:=h
 exact ⟨b,o,c,e,fun i x hx j u hu => cell_keep hb (h1 i x hx j u hu),fun x hx => ⟨(h2 x hx).1.imp (pure_keep hb),(h2 x hx).2⟩⟩
theorem xmCells_at {xs:List XM} {j:Nat} {u:Value} (h:(xmCells xs)[j]? = some u):∃ x,xs[j / 6]? = some x ∧ x.cells[j % 6]? = some u:=by
 have hl:=(List.getElem?_eq_some_iff.1 h).1
 rw [xmCells_len] at hl
 obtain ⟨x,hx⟩:∃ x,xs[j / 6]? = some x:=⟨_,List.getElem?_eq_getElem (by omega)⟩
 refine ⟨x,hx,?_⟩
 have hg:=xmCells_get xs (j / 6) x hx (j % 6) (Nat.mod_lt _ (by decide))
 rw [Nat.mul_comm,Nat.div_add_mod] at hg
 rw [← hg,h]
theorem infoPM:(Tryz.prog.info? 47).map (fun i => (i.zero,i.size,i.bytes)) = some (some zeroM,6,96):=by kernel_rfl
theorem cloneM_any (xs:List XM) (v:Value) (w:World) (h:MemsAt w v xs) (hne:xs ≠ []) (hl:xs.length ≤ 1000000) :
 Calls Tryz.prog 50 #[v] w fun e w' => ∃ g c,e = .returned (.slice (some ⟨g,0,none⟩) xs.length c) ∧ Below w.heap.size w w' ∧ w'.ownsRow w.heap.size 47 6 (.slice (some ⟨g,0,none⟩) xs.length c) xs.length (xmCells xs):=by
 obtain ⟨b,o,cap,rfl,h1,-⟩:=h
 obtain ⟨n,hn⟩:∃ n,xs.length = n:=⟨_,rfl⟩
 rw [hn] at hl ⊢
 have hn0:0 < n:=by rw [← hn]; exact List.length_pos_iff.2 hne
 have hq:=Lib.run_eql_slice_nil w 43 47 (some ⟨b,o,none⟩) n cap 0 0 Tryz.underlying43
 obtain ⟨i0,hi,hz0,hz1,hz2⟩:=info_parts infoPM
 have HC:Hid (∀ j u,(xmCells xs)[j]? = some u → w.cell? ((⟨b,o,none⟩:Addr).add j) = some u):=fun j u hj => by
  obtain ⟨x,hx,hu⟩:=xmCells_at hj
  have hadd:(⟨b,o,none⟩:Addr).add j = ⟨b,o + j,none⟩:=by unfold Addr.add; split <;> simp_all
  rw [hadd]
  have:=h1 _ x hx _ u hu
  rwa [show o + j / 6 * 6 + j % 6 = o + j by have:=Nat.div_add_mod j 6; omega] at this
 have HN:=Lib.hid hn
 clear h1 hn hne
 go_enter Tryz.func50,Tryz.ntmps50
 go_wp2_with (at_builtin; refine wpList_append_own _ rfl _ _ 43 rfl w.heap.size 47 i0 zeroM 6 96 Tryz.underlying43 hi hz0 hz1 hz2 rfl (by decide) _ _ _ rfl (World.ownsRow_made w #[] 0 (Nat.le_refl _) (Nat.zero_le _) rfl) ⟨b,o,none⟩ n cap (xmCells xs) rfl ?qc1 ?qc2 ?qc3 ?qc4 ?qc5 ?qc6 ?_)
 case qc1 => rw [xmCells_len,HN.out]
 case qc2 =>
  intro j u hj
  exact Lib.cell?_alloc_some _ (HC.out j u hj)
 case qc3 =>
  intro u hu
  obtain ⟨x,_,hx⟩:=List.mem_flatMap.1 hu
  exact XM.cells_one x u hx
 case qc4 => unfold maxLen; omega
 case qc5 => omega
 case qc6 => simp
 intro v' w1 hown hgrow hnil
 have hform:∃ g c,v' = .slice (some ⟨g,0,none⟩) n c:=by
  rcases hown.2 with ⟨e,-⟩ | ⟨g,c,cur,e,-⟩
  ·exact absurd e hnil
  ·exact ⟨g,c,e⟩
 obtain ⟨g,c,rfl⟩:=hform
 have hB:Below w.heap.size w w1:=((Below.refl _ w).alloc (Nat.le_refl _) _).grown hgrow (by simp) (by intro k hk; simp [Value.ownBlock] at hk; omega)
 have HB:=Lib.hid hB
 have HO:Hid (w1.ownsRow w.heap.size 47 6 (.slice (some ⟨g,0,none⟩) n c) n (xmCells xs)):=by show World.ownsRow _ _ _ _ _ _ _; simpa using hown
 clear hown hgrow hnil hB
 go_wp2_with fail
 go_ret
 exact ⟨g,c,rfl,HB.out,HO.out⟩
set_option maxHeartbeats 2000000 in
theorem cmpP_any (x y:XM) (W:World):Calls Tryz.prog 52 #[.agg #[.string x.name,.int .u8 x.c.k,.int .i64 x.c.n,.string x.c.t,.slice x.c.a x.c.l x.c.c,.slice x.c.b x.c.m x.c.e],.agg #[.string y.name,.int .u8 y.c.k,.int .i64 y.c.n,.string y.c.t,.slice y.c.a y.c.l y.c.c,.slice y.c.b y.c.m y.c.e]] W fun e w' => e = .returned (.int .i64 (cfM x y)) ∧ ∃ q os',w' = Go.Sort.grow (W.drewN q) os':=by
 have hcon:=fun W' => Tryz.strings_Compare x.name y.name W'
 unfold cfM
 generalize Lib.compareBytes x.name.data.toList y.name.data.toList = v at hcon ⊢
 go_enter Tryz.func52,Tryz.ntmps52
 go_wp2_with (go_at_call 53; refine (hcon _).mono ?_; rintro e w' ⟨rfl,rfl⟩)
 go_ret
 exact ⟨rfl,0,_,by rw [Go.Sort.alloc_eq_grow,Go.Sort.alloc_eq_grow,Go.Sort.grow_grow]; rfl⟩
theorem cmpLaysP (blk off size:Nat) (w:World):CmpLays Tryz.prog 52 #[] XM.cells 6 cfM blk off size w:=fun _ _ _ _ x y => cmpP_any x y _
theorem isAggP:∀ w,(isAgg 47).run Tryz.prog w = .ok true w:=fun w => by first | exact Tryz.isAgg47 w | kernel_rfl
theorem sizeOfP:∀ w,(Go.sizeOf 47).run Tryz.prog w = .ok 6 w:=fun w => by first | exact Tryz.sizeOf47 w | kernel_rfl
theorem holdsP {w:World} {B g cp:Nat} {xs:List XM} (h:w.ownsRow B 47 6 (.slice (some ⟨g,0,none⟩) xs.length cp) xs.length (xmCells xs)):Go.Sort.HoldsK XM.cells 6 w g 0 xs.toArray:=by
 have hb:∃ cur,BlkAt w g 47 cur:=by
  rcases h.2 with ⟨e,-⟩ | ⟨g',cap,cur,e,-,hg,-⟩
  ·cases e
  ·simp only [Value.slice.injEq,Option.some.injEq,Addr.mk.injEq] at e
   obtain ⟨⟨rfl,-⟩,-⟩:=e
   exact ⟨cur,hg⟩
 obtain ⟨cur,hb⟩:=hb
 intro j hj
 rw [Go.Sort.size_flatK] at hj
 refine ⟨?_,hb.free _⟩
 have hj':j < xs.length * 6:=hj
 obtain ⟨x,hx⟩:∃ x,xs[j / 6]? = some x:=⟨_,List.getElem?_eq_getElem (by omega)⟩
 have hc:=World.ownsRow.cells h (g:=g) rfl
 have hadd:∀ j,(⟨g,0,none⟩:Addr).add j = ⟨g,j,none⟩:=fun j => by unfold Addr.add; split <;> simp_all
 rw [Nat.zero_add,← hadd]
 refine hc _ _ ?_
 have h6:j % 6 < 6:=Nat.mod_lt _ (by decide)
 have hget:=xmCells_get xs (j / 6) x hx (j % 6) h6
 rw [Nat.mul_comm,Nat.div_add_mod] at hget
 rw [hget,id,Go.Sort.get_flatK _ _ _ _ hj]
 have e1:(xs.toArray)[j / 6]! = x:=by
  have:(xs.toArray)[j / 6]? = some x:=by simpa using hx
  rw [getElem!_def,this]
 rw [e1,getElem!_def]
 rw [List.getElem?_eq_getElem (by rw [XM.cells_len]; exact h6)]
def XLt (a b:XM):Prop:=Op.bytesLess a.name.data.toList b.name.data.toList = true
theorem sort_same:∀ (xs ys:List XM),ys.Perm xs → xs.Pairwise XLt → ys.Pairwise (fun a b => ¬ XLt b a) → ys = xs
 | [],ys,hp,_,_ => hp.eq_nil
 | x :: r,[],hp,_,_ => absurd hp.symm.eq_nil (by simp)
 | x :: r,y :: t,hp,hx,hy => by
   rw [List.pairwise_cons] at hx hy
   have e:y = x:=by
    rcases List.mem_cons.1 (hp.mem_iff.1 (List.mem_cons_self (a:=y) (l:=t))) with e | hr
    ·exact e
    ·rcases List.mem_cons.1 (hp.mem_iff.2 (List.mem_cons_self (a:=x) (l:=r))) with e | ht
     ·exact e.symm
     ·exact absurd (hx.1 y hr) (hy.1 x ht)
   subst e
   rw [sort_same r t (List.Perm.cons_inv hp) hx.2 hy.2]
theorem sortP_any (xs:List XM) (g cp B:Nat) (w:World) (h:w.ownsRow B 47 6 (.slice (some ⟨g,0,none⟩) xs.length cp) xs.length (xmCells xs)) (_hne:xs ≠ []) (hl:xs.length ≤ 1000000) (hasc:xs.Pairwise XLt) :
 Calls Tryz.prog 51 #[.slice (some ⟨g,0,none⟩) xs.length cp,.func (.func 52) #[] #[]] w fun e w' => e = .returned (.tuple #[]) ∧ w.grownBy w' (some g) ∧ ∀ i x,xs[i]? = some x → ∀ j u,x.cells[j]? = some u → w'.cell? ⟨g,i * 6 + j,none⟩ = some u:=by
 have hg:=(World.ownsRow.lt h g rfl).2
 have hH:=holdsP h
 have eg:∀ args w,(callFunc 52 args).run Tryz.prog w = .ok (.enter 52 args) w:=enters_of Tryz.func52 (by kernel_rfl) rfl
 have hcon:=AnyQ.slices_SortFunc Tryz.sortPick 6 isAggP sizeOfP XM.cells XM.cells_len XM.cells_one cfM swoM 52 #[] g 0 cp xs.toArray _ eg (cmpLaysP g 0 xs.toArray.size _) hH hg (by show xs.length < _; omega)
 change Calls Tryz.prog 51 _ _ _ at hcon
 refine hcon.mono ?_
 rintro e' w1 ⟨rfl,d',n,os,hp,hso,hw1⟩
 have hsz:d'.size = xs.toArray.size:=hp.1
 have e1:d'.extract 0 xs.toArray.size = d':=by rw [← hsz]; simp
 have e2:xs.toArray.extract 0 xs.toArray.size = xs.toArray:=by simp
 have h3:=hp.2.2
 rw [e1,e2] at h3
 have h4:d'.toList.Perm xs:=h3
 have hd:d'.toList = xs:=by
  refine sort_same _ _ h4 hasc ?_
  rw [List.pairwise_iff_getElem]
  intro i j hi hj hij
  have:=hso i j (Nat.zero_le _) hij (by rw [Array.length_toList] at hj; rw [← hsz]; exact hj)
  rw [ltM] at this
  have gi:d'[i]! = d'.toList[i]:=by rw [getElem!_pos d' i (by simpa using hi)]; simp
  have gj:d'[j]! = d'.toList[j]:=by rw [getElem!_pos d' j (by simpa using hj)]; simp
  rw [gi,gj] at this
  unfold XLt
  rw [this]
  decide
 refine ⟨rfl,by rw [hw1]; exact grown_sort _ _ _ _ _,fun i y hy j c hj => ?_⟩
 have hH3:=holdsK_sortWorldK XM.cells 6 _ g 0 n xs.toArray d' os hg hH hsz
 rw [← hw1] at hH3
 rw [← hd] at hy
 have hi2:i < d'.size:=by have:=(List.getElem?_eq_some_iff.1 hy).1; simpa using this
 have hj6:j < 6:=by have:=(List.getElem?_eq_some_iff.1 hj).1; rwa [XM.cells_len] at this
 have h5:=(hH3.cell hi2 hj6).1
 have e3:d'[i]! = y:=by
  have:d'[i]? = some y:=by rw [← Array.getElem?_toList]; exact hy
  rw [getElem!_def,this]
 rw [Nat.zero_add,e3] at h5
 rw [h5,getElem!_def,hj]
end Go.Proofs.YtaloajeldimpnaaGreatDoor
