/-
 slices.Clone and slices.SortFunc at the members of pick.ObjectOf.
-/
import Derived.Test.YtchinankclckjaaGreatDoorChartV2
import Derived.Test.YtchinankclckjaaGreatDoorReadSorted
import Derived.Test.YtchinankclckjaaGreatDoorShelfD
import Derived.Test.YtchinankclckjaaGreatDoorShelfE
namespace Go.Proofs.YtchinankclckjaaGreatDoor
set_option maxHeartbeats 2000000
set_option maxRecDepth 100000
open Go.RowKit Go.WideMaps Go.Maps Go.Shelf
def MemsAt (w:World) (v:Value) (xs:List XM):Prop:=∃ b o c,v=.slice (some ⟨b,o,none⟩) xs.length c∧(∀ i x,xs[i]?=some x→∀ j u,x.cells[j]?=some u→w.cell? ⟨b,o+i*6+j,none⟩=some u)∧∀ x ∈ xs,ValAt (pureW w) x.V x.c.val∧x.name.size≤maxLen
theorem MemsAt.keep {w w':World} {v:Value} {xs:List XM} (h:MemsAt w v xs) (hb:Below w.heap.size w w'):MemsAt w' v xs:=by
 obtain ⟨b,o,c,e,h1,h2⟩:=h
 exact ⟨b,o,c,e,fun i x hx j u hu=>cell_keep hb (h1 i x hx j u hu),fun x hx=>⟨(h2 x hx).1.imp (pure_keep hb),(h2 x hx).2⟩⟩
theorem xmCells_at {xs:List XM} {j:Nat} {u:Value} (h:(xmCells xs)[j]?=some u):∃ x,xs[j / 6]?=some x∧x.cells[j % 6]?=some u:=by
 have hl:=(List.getElem?_eq_some_iff.1 h).1
 rw [xmCells_len] at hl
 obtain ⟨x,hx⟩:∃ x,xs[j / 6]?=some x:=⟨_,List.getElem?_eq_getElem (by omega)⟩
 refine ⟨x,hx,?_⟩
 have hg:=xmCells_get xs (j / 6) x hx (j % 6) (Nat.mod_lt _ (by decide))
 rw [Nat.mul_comm,Nat.div_add_mod] at hg
 rw [← hg,h]
theorem infoPM:(Tryz.prog.info? 41).map (fun i=>(i.zero,i.size,i.bytes))=some (some zeroM,6,96):=by kernel_rfl
theorem cmpP_any (x y:XM) (W:World):Calls Tryz.prog 33 #[.agg #[.string x.name,.int .u8 x.c.k,.int .i64 x.c.n,.string x.c.t,.slice x.c.a x.c.l x.c.c,.slice x.c.b x.c.m x.c.e],.agg #[.string y.name,.int .u8 y.c.k,.int .i64 y.c.n,.string y.c.t,.slice y.c.a y.c.l y.c.c,.slice y.c.b y.c.m y.c.e]] W fun e w'=>e=.returned (.int .i64 (cfM x y))∧∃ q os',w'=Go.Sort.grow (W.drewN q) os':=by
 have hcon:=fun W'=>Tryz.strings_Compare x.name y.name W'
 unfold cfM
 generalize Lib.compareBytes x.name.data.toList y.name.data.toList=v at hcon ⊢
 go_enter Tryz.func33,Tryz.ntmps33
 go_wp2_with (go_at_call 34;refine (hcon _).mono ?_;rintro e w' ⟨rfl,rfl⟩)
 go_ret
 exact ⟨rfl,0,_,by rw [Go.Sort.alloc_eq_grow,Go.Sort.alloc_eq_grow,Go.Sort.grow_grow];rfl⟩
theorem cmpLaysP (blk off size:Nat) (w:World):CmpLays Tryz.prog 33 #[] XM.cells 6 cfM blk off size w:=fun _ _ _ _ x y=>cmpP_any x y _
theorem isAggP:∀ w,(isAgg 41).run Tryz.prog w=.ok true w:=fun w=>by first | exact Tryz.isAgg41 w | kernel_rfl
theorem sizeOfP:∀ w,(Go.sizeOf 41).run Tryz.prog w=.ok 6 w:=fun w=>by first | exact Tryz.sizeOf41 w | kernel_rfl
theorem holdsP {w:World} {B g cp:Nat} {xs:List XM} (h:w.ownsRow B 41 6 (.slice (some ⟨g,0,none⟩) xs.length cp) xs.length (xmCells xs)):Go.Sort.HoldsK XM.cells 6 w g 0 xs.toArray:=by
 have hb:∃ cur,BlkAt w g 41 cur:=by
  rcases h.2 with ⟨e,-⟩ | ⟨g',cap,cur,e,-,hg,-⟩
  ·cases e
  ·simp only [Value.slice.injEq,Option.some.injEq,Addr.mk.injEq] at e
   obtain ⟨⟨rfl,-⟩,-⟩:=e
   exact ⟨cur,hg⟩
 obtain ⟨cur,hb⟩:=hb
 intro j hj
 rw [Go.Sort.size_flatK] at hj
 refine ⟨?_,hb.free _⟩
 have hj':j<xs.length*6:=hj
 obtain ⟨x,hx⟩:∃ x,xs[j / 6]?=some x:=⟨_,List.getElem?_eq_getElem (by omega)⟩
 have hc:=World.ownsRow.cells h (g:=g) rfl
 have hadd:∀ j,(⟨g,0,none⟩:Addr).add j=⟨g,j,none⟩:=fun j=>by unfold Addr.add;split <;> simp_all
 rw [Nat.zero_add,← hadd]
 refine hc _ _ ?_
 have h6:j % 6<6:=Nat.mod_lt _ (by decide)
 have hget:=xmCells_get xs (j / 6) x hx (j % 6) h6
 rw [Nat.mul_comm,Nat.div_add_mod] at hget
 rw [hget,id,Go.Sort.get_flatK _ _ _ _ hj]
 have e1:(xs.toArray)[j / 6]! = x:=by
  have:(xs.toArray)[j / 6]?=some x:=by simpa using hx
  rw [getElem!_def,this]
 rw [e1,getElem!_def]
 rw [List.getElem?_eq_getElem (by rw [XM.cells_len];exact h6)]
def XLt (a b:XM):Prop:=Op.bytesLess a.name.data.toList b.name.data.toList=true
theorem sort_same:∀ (xs ys:List XM),ys.Perm xs→xs.Pairwise XLt→ys.Pairwise (fun a b=>¬ XLt b a)→ys=xs
 | [],ys,hp,_,_=>hp.eq_nil
 | x :: r,[],hp,_,_=>absurd hp.symm.eq_nil (by simp)
 | x :: r,y :: t,hp,hx,hy=>by
   rw [List.pairwise_cons] at hx hy
   have e:y=x:=by
    rcases List.mem_cons.1 (hp.mem_iff.1 (List.mem_cons_self (a:=y) (l:=t))) with e | hr
    ·exact e
    ·rcases List.mem_cons.1 (hp.mem_iff.2 (List.mem_cons_self (a:=x) (l:=r))) with e | ht
     ·exact e.symm
     ·exact absurd (hx.1 y hr) (hy.1 x ht)
   subst e
   rw [sort_same r t (List.Perm.cons_inv hp) hx.2 hy.2]
end Go.Proofs.YtchinankclckjaaGreatDoor
