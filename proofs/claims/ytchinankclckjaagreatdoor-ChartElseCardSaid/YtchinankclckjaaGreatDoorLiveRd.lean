/-
 A value that can be read as data, of which no cell that is met is frozen.
-/
import Derived.Test.YtchinankclckjaaGreatDoorChartEl
namespace Go.Proofs.YtchinankclckjaaGreatDoor
set_option maxRecDepth 100000
open Go.RowKit Go.ChangeShapes Go.WideShapes Go.Deep
section
variable {H:Type} {enc:TypeId × Value→H} {w:World} {base:Nat} {spare:Nat→Bool} {held:Bool}
theorem live_trod:∀ (fuel:Nat) (cs:List Value) (x:DataW H × List MemPlace),DataW.trod enc Tryz.prog w base spare held fuel 29 cs=some x→w.noneFrozen x.2→∀ (V:JV) (c0 c1 c2 c3 vi:Value),cs=[c0,c1,c2,c3,vi]→ItemsAt w vi V.items→Live w vi V.items:=by
 intro fuel
 induction fuel using Nat.strongRecOn with
 | _ fuel ih =>
   intro cs x h hfz V c0 c1 c2 c3 vi hcs hI N
   match N with
   | 0=>trivial
   | N+1 =>
     intro b o n c e j y hy
     subst hcs e
     obtain ⟨xs,m,hm,hx,hcl,hxl,hf⟩:=DataW.trod_struct Tryz.underlying29 h
     obtain ⟨y4,e4⟩:∃ z,xs[4]?=some z:=⟨_,List.getElem?_eq_getElem (by rw [hxl];decide)⟩
     have f4:DataW.trod enc Tryz.prog w base spare held m 27 (([c0,c1,c2,c3,.slice (some ⟨b,o,none⟩) n c].drop 4).take (Tryz.prog.cellsOf 27))=some y4:=(hf 4 _ rfl).trans e4
     have u4:Tryz.prog.cellsOf 27=1:=by kernel_rfl
     have hC:Tryz.prog.cellsOf 29=5:=by kernel_rfl
     simp only [u4,List.drop_zero,List.drop_succ_cons,List.take_succ_cons,List.take_zero] at f4
     have hfz4:w.noneFrozen y4.2:=fun b' o' hm'=>hfz b' o' (by rw [hx];exact List.mem_flatMap.2 ⟨y4,List.mem_of_getElem? e4,hm'⟩)
     rcases DataW.trod_slice Tryz.underlying27 f4 with ⟨hc,-⟩ | ⟨a,len,cap,elems,rest,n',hn',hc,hp,-,hl,hmx,hlen,hel,-,-⟩
     ·simp at hc
     ·simp only [List.cons.injEq,Value.slice.injEq,Option.some.injEq,and_true] at hc
      obtain ⟨rfl,rfl,rfl⟩:=hc
      obtain ⟨a',cap',e',-,hpart⟩:=hI.parts
      simp only [Value.slice.injEq] at e'
      obtain ⟨rfl,hnl,rfl⟩:=e'
      have hj:j<n:=by rw [hnl];exact (List.getElem?_eq_some_iff.1 hy).1
      obtain ⟨b2,o2,vn,wi,eb,d0,d1,d2,d3,d4,-,-,-,-,-,-,his⟩:=hpart j y hy
      simp only [Option.some.injEq,Addr.mk.injEq,and_true] at eb
      obtain ⟨rfl,rfl⟩:=eb
      rw [hC] at hel hp
      rw [hp] at hfz4
      refine ⟨hfz4 b (o+j*5) (List.mem_append_left _ (MemPlace.mem_row.2 ⟨j*5,by rw [hlen];omega,rfl⟩)),fun xi hxi=>?_⟩
      rw [d4] at hxi
      cases hxi
      have h1:=hel j hj
      rw [List.getElem?_eq_getElem (by omega)] at h1
      obtain ⟨cs',hcs',htr⟩:=Option.bind_eq_some_iff.1 h1
      obtain ⟨-,hcl',hat⟩:=World.cells?_some hcs'
      match cs',hcl' with
      | [g0,g1,g2,g3,g4],_ =>
        have k4:=hat 4 (by omega)
        rw [add_none,add_none] at k4
        rw [show (⟨b,o+j*5+4,none⟩:Addr)=⟨b,o+j*5+4,none⟩ from rfl,d4] at k4
        simp only [List.getElem?_cons_succ,List.getElem?_cons_zero,Option.some.injEq] at k4
        subst k4
        refine ih n' (by omega) _ _ htr (fun b' o' hm'=>hfz4 b' o' (List.mem_append_right _ (List.mem_flatMap.2 ⟨_,List.mem_append_left _ (List.getElem_mem _),hm'⟩))) y g0 g1 g2 g3 _ rfl his N
theorem live_arg {r:Reach} {b0:Nat} {v:Value} {d:DataW H} {p:List MemPlace} (hv:Value.okWide Tryz.prog w r b0 29 v) (h:DataW.Trod enc Tryz.prog w base spare held 29 v d p) (hfz:w.noneFrozen p):∃ V,ValAt w V v∧∀ c0 c1 c2 c3 vi,v=.agg #[c0,c1,c2,c3,vi]→Live w vi V.items:=by
 obtain ⟨cs,rfl,-⟩:=okWide_struct Tryz.underlying29 hv
 obtain ⟨fuel,hf⟩:=h
 obtain ⟨V,hV⟩:=valAt_trod fuel _ _ hf
 have hV':ValAt w V (.agg cs):=by simpa [Value.cells] using hV
 refine ⟨V,hV',fun c0 c1 c2 c3 vi e=>?_⟩
 obtain ⟨vn,wi,e2,-,-,-,-,-,-,his⟩:=valAt_iff.1 hV'
 rw [e] at e2
 simp only [Value.agg.injEq,Array.mk.injEq,List.cons.injEq,and_true] at e2
 obtain ⟨-,-,-,-,rfl⟩:=e2
 refine live_trod fuel _ _ hf hfz V c0 c1 c2 c3 vi ?_ his
 rw [e]
 rfl
end
end Go.Proofs.YtchinankclckjaaGreatDoor
