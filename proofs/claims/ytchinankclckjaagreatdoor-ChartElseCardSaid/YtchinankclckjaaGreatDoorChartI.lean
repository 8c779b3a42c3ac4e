/-
  pick.Of; Text, List, Object of a picker.
  List and Object of a picker.
  Texts, Bool, Num of a picker.
  chart.reposOf: the repositories of an object.
  A picker beside variables that were there before it; chart.mappingOf: the mapping of an object.
-/
import Derived.Test.YtchinankclckjaaGreatDoorPickB
import Derived.Deep.DeepWitnessRowRef
import Derived.Test.YtchinankclckjaaGreatDoorChartA
import Derived.Maps.AppendAt
import Derived.Test.YtchinankclckjaaGreatDoorChartE
import Derived.Test.YtchinankclckjaaGreatDoorChartD
namespace Go.Proofs.YtchinankclckjaaGreatDoor
set_option maxHeartbeats 16000000
section
open Go.RowKit Go.Maps
/-! Text. -/
def PStep (s':PS) (Q w0 w:World) (o B:Nat) (V:JV) (x:VC) (w':World):Prop:=PSt Q w0 w' o B V x s'∧Sep w w' o (some B)
theorem takeQ_get {V:JV} {nm:ByteArray} {k:Int} {A:List ByteArray} (h5:V.k=5) {R:Option JV} (hR:getV V nm=R):takeQ V nm k (.ok A)=match R with | none=>(none,.bad 6) | some y=>if y.k=k then (some y,.ok (A++[nm])) else (none,.bad 10):=by
 rw [takeQ]
 unfold getV at hR
 rw [if_pos h5] at hR
 rw [hR]
 cases R <;> rfl
end

section
set_option maxRecDepth 100000
open Go.RowKit Go.Maps
def ItemsC (most B0:Nat) (y:JV) (er:Int) (tv:Value) (W:World):Prop :=
 (y.k=4∧y.items.length≤most∧er=0∧ItemsAt (hidden (offB B0 none) W) tv y.items)∨(y.k=4∧most<y.items.length∧er=5)∨(y.k≠4∧er=10)
theorem newv_parts {B:Nat} {W:World} {y:JV} {yk yn:Int} {yt:ByteArray} {ya yb:Option Addr} {yl yc ym ye:Nat} (h:NewV B W y (VC.val ⟨yk,yn,yt,ya,yl,yc,yb,ym,ye⟩)) :
 y.k=yk∧y.n=yn∧y.t=yt∧y.names.length=yl∧y.items.length=ym∧StrsAt (hidden (offB B none) W) (.slice ya yl yc) y.names∧ItemsAt (hidden (offB B none) W) (.slice yb ym ye) y.items:=by
 obtain ⟨vn,vi,e1,-,-,-,-,-,hn,hi⟩:=valAt_iff.1 h
 simp only [VC.val,Value.agg.injEq,Array.mk.injEq,List.cons.injEq,Value.int.injEq,Value.string.injEq,true_and,and_true] at e1
 obtain ⟨h1,h2,h3,h4,h5⟩:=e1
 rw [← h4] at hn
 rw [← h5] at hi
 obtain ⟨_,_,e2,-⟩:=hn.parts
 obtain ⟨_,_,e3,-⟩:=hi.parts
 simp only [Value.slice.injEq] at e2 e3
 exact ⟨h1.symm,h2.symm,h3.symm,e2.2.1.symm,e3.2.1.symm,hn,hi⟩
theorem pItems_any (y:JV) (yv:VC) (W:World) (B:Nat) (most:Nat) (h:NewV B W y yv.val) :
 Calls Tryz.prog 72 #[yv.val,.int .i64 most] W fun e W'=>∃ tv er,e=.returned (.tuple #[tv,.int .i64 er])∧Below W.heap.size W W'∧ItemsC most B y er tv W'∧(er≠0→tv=.slice none 0 0):=by
 obtain ⟨yk,yn,yt,ya,yl,yc,yb,ym,ye⟩:=yv
 obtain ⟨hk,-,-,-,hm,-,hit⟩:=newv_parts h
 have HB:Hid (Below W.heap.size W (W.alloc (.cells #[.int .u8 yk,.int .i64 yn,.string yt,.slice ya yl yc,.slice yb ym ye] 29))):=bel_alloc (Below.refl _ _) _
 have HI:Hid (ItemsAt (hidden (offB B none) (W.alloc (.cells #[.int .u8 yk,.int .i64 yn,.string yt,.slice ya yl yc,.slice yb ym ye] 29))) (.slice yb ym ye) y.items):=hit.imp (Up.of_below HB.out).val
 clear h hit
 simp only [VC.val]
 by_cases h4:yk=4
 ·have hb:(yk != 4)=false:=by rw [h4];rfl
  by_cases hl:most<ym
  ·have hg:decide ((most:Int)<(ym:Int))=true:=decide_eq_true (by omega)
   have hg':decide (most<ym)=true:=decide_eq_true hl
   have HR:Hid (∀ W,ItemsC most B y 5 (.slice none 0 0) W):=fun W=>Or.inr (Or.inl ⟨by rw [hk,h4],by omega,rfl⟩)
   clear hk hm h4 HI
   go_enter Tryz.func72,Tryz.ntmps72
   go_wp2_with fail
   go_ret2
   exact ⟨_,_,rfl,HB.out,HR.out _,fun _=>rfl⟩
  ·have hg:decide ((most:Int)<(ym:Int))=false:=decide_eq_false (by omega)
   have hg':decide (most<ym)=false:=decide_eq_false hl
   have HR:=Lib.hid (show ItemsC most B y 0 (.slice yb ym ye) (W.alloc (.cells #[.int .u8 yk,.int .i64 yn,.string yt,.slice ya yl yc,.slice yb ym ye] 29)) from Or.inl ⟨by rw [hk,h4],by omega,rfl,HI.out⟩)
   clear hk hm h4 HI
   go_enter Tryz.func72,Tryz.ntmps72
   go_wp2_with fail
   go_ret2
   exact ⟨_,_,rfl,HB.out,HR.out,fun h=>absurd rfl h⟩
 ·have hb:(yk != 4)=true:=by rw [bne_iff_ne];exact h4
  have HR:Hid (∀ W,ItemsC most B y 10 (.slice none 0 0) W):=fun W=>Or.inr (Or.inr ⟨by rw [hk];exact h4,rfl⟩)
  clear hk hm h4 HI
  go_enter Tryz.func72,Tryz.ntmps72
  go_wp2_with fail
  go_ret2
  exact ⟨_,_,rfl,HB.out,HR.out _,fun _=>rfl⟩
theorem ItemsC.up {most B0:Nat} {y:JV} {er:Int} {tv:Value} {W W':World} (hu:Up B0 W W') (h:ItemsC most B0 y er tv W):ItemsC most B0 y er tv W':=by
 rcases h with ⟨h1,h2,h3,h4⟩ | h | h
 ·exact Or.inl ⟨h1,h2,h3,h4.imp hu.val⟩
 ·exact Or.inr (Or.inl h)
 ·exact Or.inr (Or.inr h)
theorem listConv_any (y:JV) (yv:VC) (W:World) (B:Nat) (most mb:Nat) (h:NewV B W y yv.val) (hmb:W.cell? ⟨mb,0,none⟩=some (.int .i64 most)) :
 Calls Tryz.prog 71 (#[yv.val] ++ #[.pointer (some ⟨mb,0,none⟩)]) W fun e W'=>∃ tv er,e=.returned (.tuple #[tv,.int .i64 er])∧Below W.heap.size W W'∧ItemsC most B y er tv W':=by
 obtain ⟨yk,yn,yt,ya,yl,yc,yb,ym,ye⟩:=yv
 have HB:Hid (Below W.heap.size W (W.alloc (.cells #[.int .u8 yk,.int .i64 yn,.string yt,.slice ya yl yc,.slice yb ym ye] 29))):=bel_alloc (Below.refl _ _) _
 have HI:=Lib.hid (pItems_any y ⟨yk,yn,yt,ya,yl,yc,yb,ym,ye⟩ _ B most (ValAt.imp (Up.of_below (B0:=B) HB.out).val h))
 have hmb2:=cell_keep HB.out hmb
 have hmlt:mb<W.heap.size:=cell_lt hmb
 clear h
 simp only [VC.val] at HI ⊢
 go_enter Tryz.func71,Tryz.ntmps71
 go_wp2_with fail
 refine HI.out.mono ?_
 rintro e W2 ⟨tv,er,rfl,hb2,hc,-⟩
 have HB2:=Lib.hid (below_more HB.out hb2)
 have HC:=Lib.hid hc
 clear hb2 hc HI
 go_wp2_with fail
 go_ret2
 exact ⟨_,_,rfl,HB2.out,HC.out⟩
theorem hid_lower {B0 B1:Nat} (h:B1≤B0) (W:World):∀ p u,(hidden (offB B0 none) W).cell? p=some u→(hidden (offB B1 none) W).cell? p=some u :=
 hid_imp fun _k _ ho=>⟨offB_none.2 (Nat.le_trans h (offB_none.1 ho)),rfl⟩
theorem pList_any {Q w0 w:World} {o B:Nat} {V:JV} {x:VC} {s:PS} (h:PSt Q w0 w o B V x s) (nm:ByteArray) (most:Nat) (hA:∀ A,s=.ok A→A.length≤900) (hn:nm.size≤maxLen) (l:List JV) (s':PS) (hq:Hid (listQ V nm most s=(l,s'))) :
 Calls Tryz.prog 41 #[.pointer (some ⟨o,0,none⟩),.string nm,.int .i64 most] w fun e w'=>(∃ sv,e=.returned sv∧ItemsAt (hidden (offB w.heap.size none) w') sv l)∧PStep s' Q w0 w o B V x w':=by
 obtain ⟨R1,hR1⟩:∃ R,getV V nm=R:=⟨_,rfl⟩
 have eg:∀ args w,(callFunc 71 args).run Tryz.prog w=.ok (.enter 71 args) w:=enters_of Tryz.func71 (by kernel_rfl) rfl
 have hb1:Below w.heap.size w (w.alloc (.cells #[.int .i64 most] 3)):=bel_alloc (Below.refl _ _) _
 have hmc:(w.alloc (.cells #[.int .i64 most] 3)).cell? ⟨w.heap.size,0,none⟩=some (.int .i64 most):=(blkAt_new w #[.int .i64 most] 3).cell 0
 have HT:=Lib.hid (pTakeList_any (h.keep hb1) nm hA hn 71 #[.pointer (some ⟨w.heap.size,0,none⟩)] (ItemsC most (w.heap.size+1)) eg R1 (Lib.hid hR1) (fun y yv W _ hbW hv=>listConv_any y yv W _ most w.heap.size (by rw [size_al] at hv;exact hv) (cell_keep hbW hmc)) (fun y er tv W W' hu hc=>ItemsC.up (by rw [size_al] at hu;exact hu) hc))
 have HR:=Lib.hid hR1
 have H5:Hid (∀ A,s=.ok A→V.k=5):=fun A hA=>by subst hA;exact POk.five h
 have HB1:=Lib.hid hb1
 clear h hA hn hR1 hb1 hmc
 have hmf:∀ (fn:Fn) (first cap:Array Value) (w:World),(Instr.makeFunc fn first cap).run Tryz.prog w=.ok (.func fn first cap) w:=fun _ _ _ _=>rfl
 go_enter Tryz.func41,Tryz.ntmps41
 go_wp2_with fail
 refine HT.out.mono ?_
 rintro e w' ⟨hsep,hp⟩
 have HSP:=Lib.hid (sepNew HB1.out hsep)
 have hq':=hq.out
 clear hsep HT
 cases s with
 | bad er =>
   obtain ⟨rfl,hs⟩:=hp
   rw [listQ,takeQ] at hq'
   cases hq'
   have HS:=Lib.hid hs
   clear hs
   go_wp2_with fail
   go_ret
   exact ⟨⟨_,rfl,itemsAt_nil _⟩,HS.out,HSP.out⟩
 | ok A =>
   rw [listQ,takeQ_get (H5.out A rfl) HR.out] at hq'
   cases R1 with
   | none =>
     obtain ⟨rfl,hs⟩:=hp
     cases hq'
     have HS:=Lib.hid hs
     clear hs
     go_wp2_with fail
     go_ret
     exact ⟨⟨_,rfl,itemsAt_nil _⟩,HS.out,HSP.out⟩
   | some y =>
     obtain ⟨er,tv,hc,hp⟩:=hp
     simp only at hq'
     rcases hc with ⟨h4,hl,rfl,hit⟩ | ⟨h4,hl,rfl⟩ | ⟨h4,rfl⟩
     ·rcases hp with ⟨-,rfl,hs⟩ | ⟨hne,-,-⟩
      ·rw [if_pos h4] at hq'
       simp only at hq'
       rw [if_neg (by omega)] at hq'
       cases hq'
       have HS:=Lib.hid hs
       have HIT:=Lib.hid (hit.imp (hid_lower (Nat.le_succ _) _))
       obtain ⟨ta,tc,rfl,-⟩:=hit.parts
       clear hs hit
       go_wp2_with fail
       go_ret
       exact ⟨⟨_,rfl,HIT.out⟩,HS.out,HSP.out⟩
      ·exact absurd rfl hne
     ·rcases hp with ⟨he,-,-⟩ | ⟨-,rfl,hs⟩
      ·cases he
      ·rw [if_pos h4] at hq'
       simp only at hq'
       rw [if_pos hl] at hq'
       cases hq'
       have HS:=Lib.hid hs
       clear hs
       go_wp2_with fail
       go_ret
       exact ⟨⟨_,rfl,itemsAt_nil _⟩,HS.out,HSP.out⟩
     ·rcases hp with ⟨he,-,-⟩ | ⟨-,rfl,hs⟩
      ·cases he
      ·rw [if_neg h4] at hq'
       cases hq'
       have HS:=Lib.hid hs
       clear hs
       go_wp2_with fail
       go_ret
       exact ⟨⟨_,rfl,itemsAt_nil _⟩,HS.out,HSP.out⟩
/-! Object. -/
def ObjC (most B0:Nat) (y:JV) (er:Int) (tv:VC) (W:World):Prop :=
 (y.k=5∧y.items.length≤most∧er=0∧ValAt (hidden (offB B0 none) W) y tv.val)∨(y.k=5∧most<y.items.length∧er=5)∨(y.k≠5∧er=10)
theorem ObjC.up {most B0:Nat} {y:JV} {er:Int} {tv:VC} {W W':World} (hu:Up B0 W W') (h:ObjC most B0 y er tv W):ObjC most B0 y er tv W':=by
 rcases h with ⟨h1,h2,h3,h4⟩ | h | h
 ·exact Or.inl ⟨h1,h2,h3,h4.imp hu.val⟩
 ·exact Or.inr (Or.inl h)
 ·exact Or.inr (Or.inr h)
theorem objConv_any (y:JV) (yv:VC) (W:World) (B:Nat) (most mb:Nat) (h:NewV B W y yv.val) (hmb:W.cell? ⟨mb,0,none⟩=some (.int .i64 most)) :
 Calls Tryz.prog 68 (#[yv.val] ++ #[.pointer (some ⟨mb,0,none⟩)]) W fun e W'=>∃ (tv:VC) (er:Int),e=.returned (.tuple #[tv.val,.int .i64 er])∧Below W.heap.size W W'∧ObjC most B y er tv W':=by
 obtain ⟨yk,yn,yt,ya,yl,yc,yb,ym,ye⟩:=yv
 obtain ⟨hk,-,-,-,hm,-,-⟩:=newv_parts h
 have HEND:Hid (∀ cs,Below W.heap.size W ((W.alloc (.cells #[.int .u8 yk,.int .i64 yn,.string yt,.slice ya yl yc,.slice yb ym ye] 29)).alloc (.cells cs 29))):=fun cs=>bel_alloc (bel_alloc (Below.refl _ _) _) _
 have HNEW:Hid (∀ cs,BlkAt ((W.alloc (.cells #[.int .u8 yk,.int .i64 yn,.string yt,.slice ya yl yc,.slice yb ym ye] 29)).alloc (.cells cs 29)) (W.heap.size+1) 29 cs):=fun cs=>by
  have:=blkAt_new (W.alloc (.cells #[.int .u8 yk,.int .i64 yn,.string yt,.slice ya yl yc,.slice yb ym ye] 29)) cs 29
  rwa [size_al] at this
 have hmlt:mb<W.heap.size:=cell_lt hmb
 have hms:=cell_keep (HEND.out #[.int .u8 0,.int .i64 0,.string ⟨#[]⟩,.slice none 0 0,.slice none 0 0]) hmb
 have HV:=Lib.hid h
 clear h
 simp only [VC.val]
 by_cases h5:yk=5
 ·have hb:(yk != 5)=false:=by rw [h5];rfl
  by_cases hl:most<ym
  ·have hg:decide ((most:Int)<(ym:Int))=true:=decide_eq_true (by omega)
   have hg':decide (most<ym)=true:=decide_eq_true hl
   have HRR:Hid (∀ W,ObjC most B y 5 zC W):=fun W=>Or.inr (Or.inl ⟨by rw [hk,h5],by omega,rfl⟩)
   obtain ⟨q0,q1,q2,q3,q4,-⟩:=b5 (HNEW.out #[.int .u8 0,.int .i64 0,.string ⟨#[]⟩,.slice none 0 0,.slice none 0 0])
   clear hk hm h5
   go_enter Tryz.func68,Tryz.ntmps68
   go_wp2_with fail
   exact bodyPost_ret (v:=.tuple #[zC.val,.int .i64 5]) (by simp [results,Tryz.results68,go_sem,zC,VC.val,q0,q1,q2,q3,q4]) rfl ⟨zC,5,rfl,HEND.out _,HRR.out _⟩
  ·have hg:decide ((most:Int)<(ym:Int))=false:=decide_eq_false (by omega)
   have hg':decide (most<ym)=false:=decide_eq_false hl
   have HRR:Hid (∀ W',ValAt (hidden (offB B none) W') y (VC.val ⟨yk,yn,yt,ya,yl,yc,yb,ym,ye⟩)→ObjC most B y 0 ⟨yk,yn,yt,ya,yl,yc,yb,ym,ye⟩ W'):=fun W' hv=>Or.inl ⟨by rw [hk,h5],by omega,rfl,hv⟩
   obtain ⟨q0,q1,q2,q3,q4,-⟩:=b5 (HNEW.out #[.int .u8 yk,.int .i64 yn,.string yt,.slice ya yl yc,.slice yb ym ye])
   clear hk hm h5
   go_enter Tryz.func68,Tryz.ntmps68
   go_wp2_with fail
   exact bodyPost_ret (v:=.tuple #[VC.val ⟨yk,yn,yt,ya,yl,yc,yb,ym,ye⟩,.int .i64 0]) (by simp [results,Tryz.results68,go_sem,VC.val,q0,q1,q2,q3,q4]) rfl ⟨⟨yk,yn,yt,ya,yl,yc,yb,ym,ye⟩,0,rfl,HEND.out _,HRR.out _ (ValAt.imp (Up.of_below (B0:=B) (HEND.out _)).val HV.out)⟩
 ·have hb:(yk != 5)=true:=by rw [bne_iff_ne];exact h5
  have HRR:Hid (∀ W,ObjC most B y 10 zC W):=fun W=>Or.inr (Or.inr ⟨by rw [hk];exact h5,rfl⟩)
  obtain ⟨q0,q1,q2,q3,q4,-⟩:=b5 (HNEW.out #[.int .u8 0,.int .i64 0,.string ⟨#[]⟩,.slice none 0 0,.slice none 0 0])
  clear hk hm h5
  go_enter Tryz.func68,Tryz.ntmps68
  go_wp2_with fail
  exact bodyPost_ret (v:=.tuple #[zC.val,.int .i64 10]) (by simp [results,Tryz.results68,go_sem,zC,VC.val,q0,q1,q2,q3,q4]) rfl ⟨zC,10,rfl,HEND.out _,HRR.out _⟩
theorem pObject_any {Q w0 w:World} {o B:Nat} {V:JV} {x:VC} {s:PS} (h:PSt Q w0 w o B V x s) (nm:ByteArray) (most:Nat) (hA:∀ A,s=.ok A→A.length≤900) (hn:nm.size≤maxLen) (hw0:w0.heap.size≤w.heap.size) (hBw:B<w.heap.size) (l:JV) (s':PS) (hq:Hid (objQ V nm most s=(l,s'))) :
 Calls Tryz.prog 39 #[.pointer (some ⟨o,0,none⟩),.string nm,.int .i64 most] w fun e w'=>(∃ sv:VC,e=.returned sv.val∧ValAt (hidden (offB w.heap.size none) w') l sv.val)∧PStep s' Q w0 w o B V x w':=by
 obtain ⟨R1,hR1⟩:∃ R,getV V nm=R:=⟨_,rfl⟩
 have eg:∀ args w,(callFunc 68 args).run Tryz.prog w=.ok (.enter 68 args) w:=enters_of Tryz.func68 (by kernel_rfl) rfl
 obtain ⟨W,hW⟩:∃ W,W=(w.alloc (.cells #[.int .i64 most] 3)).alloc (.cells #[.int .u8 0,.int .i64 0,.string ⟨#[]⟩,.slice none 0 0,.slice none 0 0] 29):=⟨_,rfl⟩
 have hb1:Below w.heap.size w W:=by rw [hW];exact bel_alloc (bel_alloc (Below.refl _ _) _) _
 have hsW:W.heap.size=w.heap.size+2:=by rw [hW,size_al,size_al]
 have hmc:W.cell? ⟨w.heap.size,0,none⟩=some (.int .i64 most):=by
  have:BlkAt W w.heap.size 3 #[.int .i64 most]:=by rw [hW];exact (blkAt_new w _ _).alloc _
  exact this.cell 0
 have HRB:Hid (BlkAt W (w.heap.size+1) 29 #[.int .u8 0,.int .i64 0,.string ⟨#[]⟩,.slice none 0 0,.slice none 0 0]):=by
  rw [hW]
  have:=blkAt_new (w.alloc (.cells #[.int .i64 most] 3)) #[.int .u8 0,.int .i64 0,.string ⟨#[]⟩,.slice none 0 0,.slice none 0 0] 29
  rwa [size_al] at this
 have ho:=h.olt
 have HT:=Lib.hid (pTakeVal_any (h.keep hb1) nm hA hn 68 #[.pointer (some ⟨w.heap.size,0,none⟩)] (ObjC most (w.heap.size+4)) eg R1 (Lib.hid hR1) (by omega) (by omega) (fun y yv Y _ hbY hv=>objConv_any y yv Y _ most w.heap.size (by rw [hsW] at hv;exact hv) (cell_keep hbY hmc)) (fun y er tv Y Y' hu hc=>ObjC.up (by rw [hsW] at hu;exact hu) hc))
 have HR:=Lib.hid hR1
 have H5:Hid (∀ A,s=.ok A→V.k=5):=fun A hA=>by subst hA;exact POk.five h
 have HB1:=Lib.hid hb1
 have HW:=Lib.hid hW
 clear h hA hn hR1 hb1 hmc hW
 have hmf:∀ (fn:Fn) (first cap:Array Value) (w:World),(Instr.makeFunc fn first cap).run Tryz.prog w=.ok (.func fn first cap) w:=fun _ _ _ _=>rfl
 go_enter Tryz.func39,Tryz.ntmps39
 go_wp2_with fail
 rw [← HW.out]
 refine HT.out.mono ?_
 rintro e w' ⟨hsep,hp⟩
 have HSP:=Lib.hid (sepNew HB1.out hsep)
 have HR':Hid (BlkAt w' (w.heap.size+1) 29 #[.int .u8 0,.int .i64 0,.string ⟨#[]⟩,.slice none 0 0,.slice none 0 0]):=(hsep.block _ (by omega) (by omega) (fun e=>by have:=Option.some.inj e;omega)).trans HRB.out
 obtain ⟨r0,r1,r2,r3,r4,rf⟩:=b5 HR'.out
 have hq':=hq.out
 have HFIN:Hid (∀ {st:PS} (hs:PSt Q w0 w' o B V x st) (v0 v1 v2 v3 v4:Value),PStep st Q w0 w o B V x (((((w'.setCell ⟨w.heap.size+1,0,none⟩ v0).setCell ⟨w.heap.size+1,1,none⟩ v1).setCell ⟨w.heap.size+1,2,none⟩ v2).setCell ⟨w.heap.size+1,3,none⟩ v3).setCell ⟨w.heap.size+1,4,none⟩ v4)):=fun hs v0 v1 v2 v3 v4=>⟨PSt.set5 hs (by omega) (by omega) (by omega) _ _ _ _ _,HSP.out.set5 (Nat.le_succ _) _ _ _ _ _⟩
 clear hsep HT
 cases s with
 | bad er =>
   obtain ⟨rfl,hs⟩:=hp
   rw [objQ,takeQ] at hq'
   cases hq'
   have HS:=Lib.hid hs
   clear hs
   simp only [zV]
   go_wp2_with fail
   obtain ⟨q0,q1,q2,q3,q4,-⟩:=b5 (blk_set5 HR'.out (.int .u8 0) (.int .i64 0) (.string ⟨#[]⟩) (.slice none 0 0) (.slice none 0 0))
   exact bodyPost_ret (v:=zC.val) (by simp [results,Tryz.results39,go_sem,zC,VC.val,q0,q1,q2,q3,q4]) rfl ⟨⟨zC,rfl,valAt_z _⟩,HFIN.out HS.out _ _ _ _ _⟩
 | ok A =>
   rw [objQ,takeQ_get (H5.out A rfl) HR.out] at hq'
   cases R1 with
   | none =>
     obtain ⟨rfl,hs⟩:=hp
     cases hq'
     have HS:=Lib.hid hs
     clear hs
     simp only [zV]
     go_wp2_with fail
     obtain ⟨q0,q1,q2,q3,q4,-⟩:=b5 (blk_set5 HR'.out (.int .u8 0) (.int .i64 0) (.string ⟨#[]⟩) (.slice none 0 0) (.slice none 0 0))
     exact bodyPost_ret (v:=zC.val) (by simp [results,Tryz.results39,go_sem,zC,VC.val,q0,q1,q2,q3,q4]) rfl ⟨⟨zC,rfl,valAt_z _⟩,HFIN.out HS.out _ _ _ _ _⟩
   | some y =>
     obtain ⟨er,tv,hc,hp⟩:=hp
     simp only at hq'
     rcases hc with ⟨h5,hl,rfl,hit⟩ | ⟨h5,hl,rfl⟩ | ⟨h5,rfl⟩
     ·rcases hp with ⟨-,rfl,hs⟩ | ⟨hne,-,-⟩
      ·rw [if_pos h5] at hq'
       simp only at hq'
       rw [if_neg (by omega)] at hq'
       cases hq'
       have HS:=Lib.hid hs
       obtain ⟨tk,tn,tt,ta,tl,tc,tb,tm,te⟩:=tv
       have HIT:=Lib.hid hit
       clear hs hit
       simp only [VC.val]
       go_wp2_with fail
       obtain ⟨q0,q1,q2,q3,q4,-⟩:=b5 (blk_set5 HR'.out (.int .u8 tk) (.int .i64 tn) (.string tt) (.slice ta tl tc) (.slice tb tm te))
       exact bodyPost_ret (v:=VC.val ⟨tk,tn,tt,ta,tl,tc,tb,tm,te⟩) (by simp [results,Tryz.results39,go_sem,VC.val,q0,q1,q2,q3,q4]) rfl ⟨⟨_,rfl,(HIT.out.imp (Up.set5 (Up.of_below (Below.refl _ _)) (by omega) _ _ _ _ _).val).imp (hid_lower (by omega) _)⟩,HFIN.out HS.out _ _ _ _ _⟩
      ·exact absurd rfl hne
     ·rcases hp with ⟨he,-,-⟩ | ⟨-,rfl,hs⟩
      ·cases he
      ·rw [if_pos h5] at hq'
       simp only at hq'
       rw [if_pos hl] at hq'
       cases hq'
       have HS:=Lib.hid hs
       clear hs
       simp only [zV]
       go_wp2_with fail
       obtain ⟨q0,q1,q2,q3,q4,-⟩:=b5 (blk_set5 HR'.out (.int .u8 0) (.int .i64 0) (.string ⟨#[]⟩) (.slice none 0 0) (.slice none 0 0))
       exact bodyPost_ret (v:=zC.val) (by simp [results,Tryz.results39,go_sem,zC,VC.val,q0,q1,q2,q3,q4]) rfl ⟨⟨zC,rfl,valAt_z _⟩,HFIN.out HS.out _ _ _ _ _⟩
     ·rcases hp with ⟨he,-,-⟩ | ⟨-,rfl,hs⟩
      ·cases he
      ·rw [if_neg h5] at hq'
       cases hq'
       have HS:=Lib.hid hs
       clear hs
       simp only [zV]
       go_wp2_with fail
       obtain ⟨q0,q1,q2,q3,q4,-⟩:=b5 (blk_set5 HR'.out (.int .u8 0) (.int .i64 0) (.string ⟨#[]⟩) (.slice none 0 0) (.slice none 0 0))
       exact bodyPost_ret (v:=zC.val) (by simp [results,Tryz.results39,go_sem,zC,VC.val,q0,q1,q2,q3,q4]) rfl ⟨⟨zC,rfl,valAt_z _⟩,HFIN.out HS.out _ _ _ _ _⟩
end

section
set_option maxRecDepth 100000
open Go.RowKit Go.Maps
theorem pTakeStrs_any {Q w0 w:World} {o B:Nat} {V:JV} {x:VC} {s:PS} (h:PSt Q w0 w o B V x s) (nm:ByteArray) (hA:∀ A,s=.ok A→A.length≤900) (hn:nm.size≤maxLen) (g:Nat) (cb:Array Value) (C:JV→Int→Value→World→Prop)
 (eg:∀ args w,(callFunc g args).run Tryz.prog w=.ok (.enter g args) w) (R1:Option JV) (hR1:Hid (getV V nm=R1))
 (hcv:∀ y (yv:VC) W,R1=some y→Below w.heap.size w W→NewV w.heap.size W y yv.val→Calls Tryz.prog g (#[yv.val]++cb) W fun e W'=>∃ tv er,e=.returned (.tuple #[tv,.int .i64 er])∧Below W.heap.size W W'∧C y er tv W')
 (hC:∀ y er tv W W',Up w.heap.size W W'→C y er tv W→C y er tv W') :
 Calls Tryz.prog 99 #[.pointer (some ⟨o,0,none⟩),.string nm,.func (.func g) #[] cb] w (TakeB C (fun v=>v) (.slice none 0 0) R1 nm Q w0 w o B V x s):=by
 have HE:=Lib.hid (pErr_any h)
 have HH:=Lib.hid h
 have HCV:=Lib.hid hcv
 have HC:=Lib.hid hC
 cases s with
 | bad er =>
   have heb:(er != 0)=true:=by rw [bne_iff_ne];exact PBad.ne h
   clear h hcv hC hA hR1
   go_enter Tryz.func99,Tryz.ntmps99
   simp only [errOf] at HE
   go_wp2_with fail
   refine HE.out.mono ?_
   rintro e' w' ⟨rfl,rfl⟩
   go_wp2_with fail
   go_ret
   exact ⟨Sep.of_below (Below.refl _ _) _ _,rfl,HH.out⟩
 | ok A =>
   have HO:Hid (POk Q w0 w o B V x A):=HH.out
   obtain ⟨k0,k1,k2,k3,k4,k5,k6,kf⟩:=b7 HO.out.blk
   have HA:=Lib.hid (hA A rfl)
   have HG:=Lib.hid (Get_any V x.val nm w ((HO.out.val.imp HO.out.sub).imp (pure_keep HO.out.bel)) HO.out.five HO.out.len HO.out.asc HO.out.wt R1 hR1)
   have hol:=BlkAt.lt HO.out.blk
   have hbl:=HO.out.ask.lt
   obtain ⟨xk,xn,xt,xa,xl,xc,xb,xm,xe⟩:=x
   have HN:=Lib.hid hn
   clear h hcv hC hA hR1 hn
   go_enter Tryz.func99,Tryz.ntmps99
   simp only [errOf] at HE
   simp only [VC.val] at HG
   go_wp2_with fail
   refine HE.out.mono ?_
   rintro e' w' ⟨rfl,rfl⟩
   go_wp2_with fail
   refine HG.out.mono ?_
   rintro e w1 ⟨hb1,hp⟩
   clear HG k0 k1 k2 k3 k4 k5 k6 kf
   cases R1 with
   | none =>
     subst hp
     simp only [zV]
     have hb2:=bel_alloc hb1 (.cells #[.int .u8 0,.int .i64 0,.string ⟨#[]⟩,.slice none 0 0,.slice none 0 0] 29)
     have HF:=Lib.hid (pFail_any (PSt.keep (s:=.ok A) HO.out hb2) 6)
     have HB2:=Lib.hid hb2
     clear hb1 hb2
     go_wp2_with fail
     refine HF.out.mono ?_
     rintro e' w3 ⟨rfl,hs3,hsp⟩
     simp only [failQ] at hs3
     rw [if_neg (by decide)] at hs3
     have HS3:=Lib.hid hs3
     have HSP:=Lib.hid (sepNew HB2.out hsp)
     clear hs3 hsp
     go_wp2_with fail
     go_ret
     exact ⟨HSP.out,rfl,HS3.out⟩
   | some y =>
     obtain ⟨⟨yk,yn,yt,ya,yl,yc,yb,ym,ye⟩,rfl,hnew⟩:=hp
     simp only [VC.val] at hnew ⊢
     have hb2:=bel_alloc hb1 (.cells #[.int .u8 yk,.int .i64 yn,.string yt,.slice ya yl yc,.slice yb ym ye] 29)
     have hnew2:NewV w.heap.size (w1.alloc (.cells #[.int .u8 yk,.int .i64 yn,.string yt,.slice ya yl yc,.slice yb ym ye] 29)) y (VC.val ⟨yk,yn,yt,ya,yl,yc,yb,ym,ye⟩):=ValAt.carry hnew fun k hk1 hk2=>⟨hk2,(bel_alloc (Below.refl _ w1) _).block k hk1⟩
     have hcv:=HCV.out y ⟨yk,yn,yt,ya,yl,yc,yb,ym,ye⟩ _ rfl hb2 hnew2
     simp only [VC.val] at hcv
     have HV:=Lib.hid hcv
     have HB2:=Lib.hid hb2
     clear hb1 hb2 hnew hnew2 hcv HCV
     go_wp2_with (go_at_fn g;refine HV.out.mono ?_)
     rintro e w3 ⟨tv,er,rfl,hb3,hct⟩
     have hb03:=below_more HB2.out hb3
     have HS3:Hid (POk Q w0 w3 o B V ⟨xk,xn,xt,xa,xl,xc,xb,xm,xe⟩ A):=PSt.keep (s:=.ok A) HO.out hb03
     have HCT:=Lib.hid hct
     have HB3:=Lib.hid hb03
     clear hb3 hct hb03 HV HB2
     by_cases her:er=0
     ·subst her
      obtain ⟨D,hown,him,hat0⟩:=HS3.out.ask
      have HOW:=Lib.hid hown
      have HIM:=Lib.hid him
      have HAT:=Lib.hid hat0
      obtain ⟨k0,k1,k2,k3,k4,k5,k6,kf⟩:=b7 HS3.out.blk
      clear hown him hat0
      go_wp2_with (first
      | (at_lookup;refine wpList_lookup_own_int _ rfl _ _ 104 rfl 9 3 .i64 askLaw Tryz.underlying104 Tryz.underlying3 (zeroInt _) B A.length D rfl HOW.out _ _ rfl (askKey HN.out) ?_;intro c hat hwc)
      | (at_mapUpdate;refine wpList_mapUpdate_own _ rfl _ _ _ 104 rfl 9 3 askLaw Tryz.underlying104 _ B A.length _ rfl HOW.out (by have:=HA.out;unfold maxLen;omega) _ _ _ rfl rfl (askKey HN.out) _ [] (plainElem_int Tryz.underlying3 (wrap64_wf _)) ?_;intro w4 hown4 hgrow4)
      | fail)
      go_ret
      have hcc:D.atKey (.string nm.data.toList) (.lit (.int .i64 0))=.lit (.int .i64 c):=hat
      have hcn:c=(cntA A nm:Int):=by
       have:=HAT.out nm HN.out
       rw [hcc] at this
       injection this with h1
       injection h1
      have hca:=cntA_le A nm
      have hask:=ask_put HN.out HIM.out HAT.out hcc (IntWalk.wrap64_in (c+1) (by have:=HA.out;omega)) hown4
      have hs:=grown_sep hgrow4 o
      exact ⟨sepNew HB3.out hs,0,tv,HC.out _ _ _ _ _ (Up.of_sep hs hol hbl) HCT.out,Or.inl ⟨rfl,rfl,POk.put HS3.out hgrow4 hask⟩⟩
     ·have heb:(er != 0)=true:=by rw [bne_iff_ne];exact her
      have HF:=Lib.hid (pFail_any (s:=.ok A) HS3.out er)
      have HER:=Lib.hid her
      clear her
      go_wp2_with fail
      refine HF.out.mono ?_
      rintro e' w4 ⟨rfl,hs4,hsp⟩
      simp only [failQ] at hs4
      rw [if_neg HER.out] at hs4
      have HS4:=Lib.hid hs4
      have HSP:=Lib.hid hsp
      clear hs4 hsp
      go_wp2_with fail
      go_ret
      exact ⟨sepNew HB3.out HSP.out,er,tv,HC.out _ _ _ _ _ (Up.of_sep HSP.out hol hbl) HCT.out,Or.inr ⟨HER.out,rfl,HS4.out⟩⟩
theorem pTakeBool_any {Q w0 w:World} {o B:Nat} {V:JV} {x:VC} {s:PS} (h:PSt Q w0 w o B V x s) (nm:ByteArray) (hA:∀ A,s=.ok A→A.length≤900) (hn:nm.size≤maxLen) (g:Nat) (cb:Array Value) (C:JV→Int→Value→World→Prop)
 (eg:∀ args w,(callFunc g args).run Tryz.prog w=.ok (.enter g args) w) (R1:Option JV) (hR1:Hid (getV V nm=R1))
 (hcv:∀ y (yv:VC) W,R1=some y→Below w.heap.size w W→NewV w.heap.size W y yv.val→Calls Tryz.prog g (#[yv.val]++cb) W fun e W'=>∃ tv er,e=.returned (.tuple #[tv,.int .i64 er])∧Below W.heap.size W W'∧C y er tv W')
 (hC:∀ y er tv W W',Up w.heap.size W W'→C y er tv W→C y er tv W') :
 Calls Tryz.prog 101 #[.pointer (some ⟨o,0,none⟩),.string nm,.func (.func g) #[] cb] w (TakeB C (fun v=>v) (.bool false) R1 nm Q w0 w o B V x s):=by
 have HE:=Lib.hid (pErr_any h)
 have HH:=Lib.hid h
 have HCV:=Lib.hid hcv
 have HC:=Lib.hid hC
 cases s with
 | bad er =>
   have heb:(er != 0)=true:=by rw [bne_iff_ne];exact PBad.ne h
   clear h hcv hC hA hR1
   go_enter Tryz.func101,Tryz.ntmps101
   simp only [errOf] at HE
   go_wp2_with fail
   refine HE.out.mono ?_
   rintro e' w' ⟨rfl,rfl⟩
   go_wp2_with fail
   go_ret
   exact ⟨Sep.of_below (Below.refl _ _) _ _,rfl,HH.out⟩
 | ok A =>
   have HO:Hid (POk Q w0 w o B V x A):=HH.out
   obtain ⟨k0,k1,k2,k3,k4,k5,k6,kf⟩:=b7 HO.out.blk
   have HA:=Lib.hid (hA A rfl)
   have HG:=Lib.hid (Get_any V x.val nm w ((HO.out.val.imp HO.out.sub).imp (pure_keep HO.out.bel)) HO.out.five HO.out.len HO.out.asc HO.out.wt R1 hR1)
   have hol:=BlkAt.lt HO.out.blk
   have hbl:=HO.out.ask.lt
   obtain ⟨xk,xn,xt,xa,xl,xc,xb,xm,xe⟩:=x
   have HN:=Lib.hid hn
   clear h hcv hC hA hR1 hn
   go_enter Tryz.func101,Tryz.ntmps101
   simp only [errOf] at HE
   simp only [VC.val] at HG
   go_wp2_with fail
   refine HE.out.mono ?_
   rintro e' w' ⟨rfl,rfl⟩
   go_wp2_with fail
   refine HG.out.mono ?_
   rintro e w1 ⟨hb1,hp⟩
   clear HG k0 k1 k2 k3 k4 k5 k6 kf
   cases R1 with
   | none =>
     subst hp
     simp only [zV]
     have hb2:=bel_alloc hb1 (.cells #[.int .u8 0,.int .i64 0,.string ⟨#[]⟩,.slice none 0 0,.slice none 0 0] 29)
     have HF:=Lib.hid (pFail_any (PSt.keep (s:=.ok A) HO.out hb2) 6)
     have HB2:=Lib.hid hb2
     clear hb1 hb2
     go_wp2_with fail
     refine HF.out.mono ?_
     rintro e' w3 ⟨rfl,hs3,hsp⟩
     simp only [failQ] at hs3
     rw [if_neg (by decide)] at hs3
     have HS3:=Lib.hid hs3
     have HSP:=Lib.hid (sepNew HB2.out hsp)
     clear hs3 hsp
     go_wp2_with fail
     go_ret
     exact ⟨HSP.out,rfl,HS3.out⟩
   | some y =>
     obtain ⟨⟨yk,yn,yt,ya,yl,yc,yb,ym,ye⟩,rfl,hnew⟩:=hp
     simp only [VC.val] at hnew ⊢
     have hb2:=bel_alloc hb1 (.cells #[.int .u8 yk,.int .i64 yn,.string yt,.slice ya yl yc,.slice yb ym ye] 29)
     have hnew2:NewV w.heap.size (w1.alloc (.cells #[.int .u8 yk,.int .i64 yn,.string yt,.slice ya yl yc,.slice yb ym ye] 29)) y (VC.val ⟨yk,yn,yt,ya,yl,yc,yb,ym,ye⟩):=ValAt.carry hnew fun k hk1 hk2=>⟨hk2,(bel_alloc (Below.refl _ w1) _).block k hk1⟩
     have hcv:=HCV.out y ⟨yk,yn,yt,ya,yl,yc,yb,ym,ye⟩ _ rfl hb2 hnew2
     simp only [VC.val] at hcv
     have HV:=Lib.hid hcv
     have HB2:=Lib.hid hb2
     clear hb1 hb2 hnew hnew2 hcv HCV
     go_wp2_with (go_at_fn g;refine HV.out.mono ?_)
     rintro e w3 ⟨tv,er,rfl,hb3,hct⟩
     have hb03:=below_more HB2.out hb3
     have HS3:Hid (POk Q w0 w3 o B V ⟨xk,xn,xt,xa,xl,xc,xb,xm,xe⟩ A):=PSt.keep (s:=.ok A) HO.out hb03
     have HCT:=Lib.hid hct
     have HB3:=Lib.hid hb03
     clear hb3 hct hb03 HV HB2
     by_cases her:er=0
     ·subst her
      obtain ⟨D,hown,him,hat0⟩:=HS3.out.ask
      have HOW:=Lib.hid hown
      have HIM:=Lib.hid him
      have HAT:=Lib.hid hat0
      obtain ⟨k0,k1,k2,k3,k4,k5,k6,kf⟩:=b7 HS3.out.blk
      clear hown him hat0
      go_wp2_with (first
      | (at_lookup;refine wpList_lookup_own_int _ rfl _ _ 104 rfl 9 3 .i64 askLaw Tryz.underlying104 Tryz.underlying3 (zeroInt _) B A.length D rfl HOW.out _ _ rfl (askKey HN.out) ?_;intro c hat hwc)
      | (at_mapUpdate;refine wpList_mapUpdate_own _ rfl _ _ _ 104 rfl 9 3 askLaw Tryz.underlying104 _ B A.length _ rfl HOW.out (by have:=HA.out;unfold maxLen;omega) _ _ _ rfl rfl (askKey HN.out) _ [] (plainElem_int Tryz.underlying3 (wrap64_wf _)) ?_;intro w4 hown4 hgrow4)
      | fail)
      go_ret
      have hcc:D.atKey (.string nm.data.toList) (.lit (.int .i64 0))=.lit (.int .i64 c):=hat
      have hcn:c=(cntA A nm:Int):=by
       have:=HAT.out nm HN.out
       rw [hcc] at this
       injection this with h1
       injection h1
      have hca:=cntA_le A nm
      have hask:=ask_put HN.out HIM.out HAT.out hcc (IntWalk.wrap64_in (c+1) (by have:=HA.out;omega)) hown4
      have hs:=grown_sep hgrow4 o
      exact ⟨sepNew HB3.out hs,0,tv,HC.out _ _ _ _ _ (Up.of_sep hs hol hbl) HCT.out,Or.inl ⟨rfl,rfl,POk.put HS3.out hgrow4 hask⟩⟩
     ·have heb:(er != 0)=true:=by rw [bne_iff_ne];exact her
      have HF:=Lib.hid (pFail_any (s:=.ok A) HS3.out er)
      have HER:=Lib.hid her
      clear her
      go_wp2_with fail
      refine HF.out.mono ?_
      rintro e' w4 ⟨rfl,hs4,hsp⟩
      simp only [failQ] at hs4
      rw [if_neg HER.out] at hs4
      have HS4:=Lib.hid hs4
      have HSP:=Lib.hid hsp
      clear hs4 hsp
      go_wp2_with fail
      go_ret
      exact ⟨sepNew HB3.out HSP.out,er,tv,HC.out _ _ _ _ _ (Up.of_sep HSP.out hol hbl) HCT.out,Or.inr ⟨HER.out,rfl,HS4.out⟩⟩
theorem pTakeNum_any {Q w0 w:World} {o B:Nat} {V:JV} {x:VC} {s:PS} (h:PSt Q w0 w o B V x s) (nm:ByteArray) (hA:∀ A,s=.ok A→A.length≤900) (hn:nm.size≤maxLen) (g:Nat) (cb:Array Value) (C:JV→Int→Value→World→Prop)
 (eg:∀ args w,(callFunc g args).run Tryz.prog w=.ok (.enter g args) w) (R1:Option JV) (hR1:Hid (getV V nm=R1))
 (hcv:∀ y (yv:VC) W,R1=some y→Below w.heap.size w W→NewV w.heap.size W y yv.val→Calls Tryz.prog g (#[yv.val]++cb) W fun e W'=>∃ tv er,e=.returned (.tuple #[tv,.int .i64 er])∧Below W.heap.size W W'∧C y er tv W')
 (hC:∀ y er tv W W',Up w.heap.size W W'→C y er tv W→C y er tv W') :
 Calls Tryz.prog 103 #[.pointer (some ⟨o,0,none⟩),.string nm,.func (.func g) #[] cb] w (TakeB C (fun v=>v) (.int .i64 0) R1 nm Q w0 w o B V x s):=by
 have HE:=Lib.hid (pErr_any h)
 have HH:=Lib.hid h
 have HCV:=Lib.hid hcv
 have HC:=Lib.hid hC
 cases s with
 | bad er =>
   have heb:(er != 0)=true:=by rw [bne_iff_ne];exact PBad.ne h
   clear h hcv hC hA hR1
   go_enter Tryz.func103,Tryz.ntmps103
   simp only [errOf] at HE
   go_wp2_with fail
   refine HE.out.mono ?_
   rintro e' w' ⟨rfl,rfl⟩
   go_wp2_with fail
   go_ret
   exact ⟨Sep.of_below (Below.refl _ _) _ _,rfl,HH.out⟩
 | ok A =>
   have HO:Hid (POk Q w0 w o B V x A):=HH.out
   obtain ⟨k0,k1,k2,k3,k4,k5,k6,kf⟩:=b7 HO.out.blk
   have HA:=Lib.hid (hA A rfl)
   have HG:=Lib.hid (Get_any V x.val nm w ((HO.out.val.imp HO.out.sub).imp (pure_keep HO.out.bel)) HO.out.five HO.out.len HO.out.asc HO.out.wt R1 hR1)
   have hol:=BlkAt.lt HO.out.blk
   have hbl:=HO.out.ask.lt
   obtain ⟨xk,xn,xt,xa,xl,xc,xb,xm,xe⟩:=x
   have HN:=Lib.hid hn
   clear h hcv hC hA hR1 hn
   go_enter Tryz.func103,Tryz.ntmps103
   simp only [errOf] at HE
   simp only [VC.val] at HG
   go_wp2_with fail
   refine HE.out.mono ?_
   rintro e' w' ⟨rfl,rfl⟩
   go_wp2_with fail
   refine HG.out.mono ?_
   rintro e w1 ⟨hb1,hp⟩
   clear HG k0 k1 k2 k3 k4 k5 k6 kf
   cases R1 with
   | none =>
     subst hp
     simp only [zV]
     have hb2:=bel_alloc hb1 (.cells #[.int .u8 0,.int .i64 0,.string ⟨#[]⟩,.slice none 0 0,.slice none 0 0] 29)
     have HF:=Lib.hid (pFail_any (PSt.keep (s:=.ok A) HO.out hb2) 6)
     have HB2:=Lib.hid hb2
     clear hb1 hb2
     go_wp2_with fail
     refine HF.out.mono ?_
     rintro e' w3 ⟨rfl,hs3,hsp⟩
     simp only [failQ] at hs3
     rw [if_neg (by decide)] at hs3
     have HS3:=Lib.hid hs3
     have HSP:=Lib.hid (sepNew HB2.out hsp)
     clear hs3 hsp
     go_wp2_with fail
     go_ret
     exact ⟨HSP.out,rfl,HS3.out⟩
   | some y =>
     obtain ⟨⟨yk,yn,yt,ya,yl,yc,yb,ym,ye⟩,rfl,hnew⟩:=hp
     simp only [VC.val] at hnew ⊢
     have hb2:=bel_alloc hb1 (.cells #[.int .u8 yk,.int .i64 yn,.string yt,.slice ya yl yc,.slice yb ym ye] 29)
     have hnew2:NewV w.heap.size (w1.alloc (.cells #[.int .u8 yk,.int .i64 yn,.string yt,.slice ya yl yc,.slice yb ym ye] 29)) y (VC.val ⟨yk,yn,yt,ya,yl,yc,yb,ym,ye⟩):=ValAt.carry hnew fun k hk1 hk2=>⟨hk2,(bel_alloc (Below.refl _ w1) _).block k hk1⟩
     have hcv:=HCV.out y ⟨yk,yn,yt,ya,yl,yc,yb,ym,ye⟩ _ rfl hb2 hnew2
     simp only [VC.val] at hcv
     have HV:=Lib.hid hcv
     have HB2:=Lib.hid hb2
     clear hb1 hb2 hnew hnew2 hcv HCV
     go_wp2_with (go_at_fn g;refine HV.out.mono ?_)
     rintro e w3 ⟨tv,er,rfl,hb3,hct⟩
     have hb03:=below_more HB2.out hb3
     have HS3:Hid (POk Q w0 w3 o B V ⟨xk,xn,xt,xa,xl,xc,xb,xm,xe⟩ A):=PSt.keep (s:=.ok A) HO.out hb03
     have HCT:=Lib.hid hct
     have HB3:=Lib.hid hb03
     clear hb3 hct hb03 HV HB2
     by_cases her:er=0
     ·subst her
      obtain ⟨D,hown,him,hat0⟩:=HS3.out.ask
      have HOW:=Lib.hid hown
      have HIM:=Lib.hid him
      have HAT:=Lib.hid hat0
      obtain ⟨k0,k1,k2,k3,k4,k5,k6,kf⟩:=b7 HS3.out.blk
      clear hown him hat0
      go_wp2_with (first
      | (at_lookup;refine wpList_lookup_own_int _ rfl _ _ 104 rfl 9 3 .i64 askLaw Tryz.underlying104 Tryz.underlying3 (zeroInt _) B A.length D rfl HOW.out _ _ rfl (askKey HN.out) ?_;intro c hat hwc)
      | (at_mapUpdate;refine wpList_mapUpdate_own _ rfl _ _ _ 104 rfl 9 3 askLaw Tryz.underlying104 _ B A.length _ rfl HOW.out (by have:=HA.out;unfold maxLen;omega) _ _ _ rfl rfl (askKey HN.out) _ [] (plainElem_int Tryz.underlying3 (wrap64_wf _)) ?_;intro w4 hown4 hgrow4)
      | fail)
      go_ret
      have hcc:D.atKey (.string nm.data.toList) (.lit (.int .i64 0))=.lit (.int .i64 c):=hat
      have hcn:c=(cntA A nm:Int):=by
       have:=HAT.out nm HN.out
       rw [hcc] at this
       injection this with h1
       injection h1
      have hca:=cntA_le A nm
      have hask:=ask_put HN.out HIM.out HAT.out hcc (IntWalk.wrap64_in (c+1) (by have:=HA.out;omega)) hown4
      have hs:=grown_sep hgrow4 o
      exact ⟨sepNew HB3.out hs,0,tv,HC.out _ _ _ _ _ (Up.of_sep hs hol hbl) HCT.out,Or.inl ⟨rfl,rfl,POk.put HS3.out hgrow4 hask⟩⟩
     ·have heb:(er != 0)=true:=by rw [bne_iff_ne];exact her
      have HF:=Lib.hid (pFail_any (s:=.ok A) HS3.out er)
      have HER:=Lib.hid her
      clear her
      go_wp2_with fail
      refine HF.out.mono ?_
      rintro e' w4 ⟨rfl,hs4,hsp⟩
      simp only [failQ] at hs4
      rw [if_neg HER.out] at hs4
      have HS4:=Lib.hid hs4
      have HSP:=Lib.hid hsp
      clear hs4 hsp
      go_wp2_with fail
      go_ret
      exact ⟨sepNew HB3.out HSP.out,er,tv,HC.out _ _ _ _ _ (Up.of_sep HSP.out hol hbl) HCT.out,Or.inr ⟨HER.out,rfl,HS4.out⟩⟩
/-! Bool. -/
def BoolC (y:JV) (er:Int) (tv:Value) (_:World):Prop:=(y.k=1∧er=0∧tv=.bool (decide (y.n=1)))∨(y.k≠1∧er=10)
theorem boolConv_any (y:JV) (yv:VC) (W:World) (B:Nat) (h:NewV B W y yv.val) :
 Calls Tryz.prog 102 (#[yv.val] ++ #[]) W fun e W'=>∃ tv er,e=.returned (.tuple #[tv,.int .i64 er])∧Below W.heap.size W W'∧BoolC y er tv W':=by
 obtain ⟨yk,yn,yt,ya,yl,yc,yb,ym,ye⟩:=yv
 obtain ⟨hk,hn,-,-,-,-,-⟩:=newv_parts h
 have HB:Hid (Below W.heap.size W (W.alloc (.cells #[.int .u8 yk,.int .i64 yn,.string yt,.slice ya yl yc,.slice yb ym ye] 29))):=bel_alloc (Below.refl _ _) _
 clear h
 simp only [VC.val]
 by_cases h1:yk=1
 ·have hb:(yk != 1)=false:=by rw [h1];rfl
  by_cases h2:yn=1
  ·have hc:(yn == 1)=true:=beq_iff_eq.2 h2
   have HR:Hid (BoolC y 0 (.bool true) W):=Or.inl ⟨by rw [hk,h1],rfl,by rw [hn,h2];rfl⟩
   clear hk hn h1 h2
   go_enter Tryz.func102,Tryz.ntmps102
   go_wp2_with fail
   go_ret2
   exact ⟨_,_,rfl,HB.out,HR.out⟩
  ·have hc:(yn == 1)=false:=beq_eq_false_iff_ne.2 h2
   have HR:Hid (BoolC y 0 (.bool false) W):=Or.inl ⟨by rw [hk,h1],rfl,by rw [hn,decide_eq_false h2]⟩
   clear hk hn h1 h2
   go_enter Tryz.func102,Tryz.ntmps102
   go_wp2_with fail
   go_ret2
   exact ⟨_,_,rfl,HB.out,HR.out⟩
 ·have hb:(yk != 1)=true:=by rw [bne_iff_ne];exact h1
  have HR:Hid (BoolC y 10 (.bool false) W):=Or.inr ⟨by rw [hk];exact h1,rfl⟩
  clear hk hn h1
  go_enter Tryz.func102,Tryz.ntmps102
  go_wp2_with fail
  go_ret2
  exact ⟨_,_,rfl,HB.out,HR.out⟩
theorem pBool_any {Q w0 w:World} {o B:Nat} {V:JV} {x:VC} {s:PS} (h:PSt Q w0 w o B V x s) (nm:ByteArray) (hA:∀ A,s=.ok A→A.length≤900) (hn:nm.size≤maxLen) (t:Bool) (s':PS) (hq:Hid (boolQ V nm s=(t,s'))) :
 Calls Tryz.prog 74 #[.pointer (some ⟨o,0,none⟩),.string nm] w fun e w'=>e=.returned (.bool t)∧PStep s' Q w0 w o B V x w':=by
 obtain ⟨R1,hR1⟩:∃ R,getV V nm=R:=⟨_,rfl⟩
 have eg:∀ args w,(callFunc 102 args).run Tryz.prog w=.ok (.enter 102 args) w:=enters_of Tryz.func102 (by kernel_rfl) rfl
 have HT:=Lib.hid (pTakeBool_any h nm hA hn 102 #[] BoolC eg R1 (Lib.hid hR1) (fun y yv W _ _ hv=>boolConv_any y yv W _ hv) (fun _ _ _ _ _ _ hc=>hc))
 have HR:=Lib.hid hR1
 have H5:Hid (∀ A,s=.ok A→V.k=5):=fun A hA=>by subst hA;exact POk.five h
 clear h hA hn hR1
 go_enter Tryz.func74,Tryz.ntmps74
 go_wp2_with fail
 refine HT.out.mono ?_
 rintro e w' ⟨hsep,hp⟩
 have hq':=hq.out
 cases s with
 | bad er =>
   obtain ⟨rfl,hs⟩:=hp
   rw [boolQ,takeQ] at hq'
   cases hq'
   have HS:=Lib.hid hs
   have HSP:=Lib.hid hsep
   clear hs hsep
   go_wp2_with fail
   go_ret
   exact ⟨rfl,HS.out,HSP.out⟩
 | ok A =>
   rw [boolQ,takeQ_get (H5.out A rfl) HR.out] at hq'
   cases R1 with
   | none =>
     obtain ⟨rfl,hs⟩:=hp
     cases hq'
     have HS:=Lib.hid hs
     have HSP:=Lib.hid hsep
     clear hs hsep
     go_wp2_with fail
     go_ret
     exact ⟨rfl,HS.out,HSP.out⟩
   | some y =>
     obtain ⟨er,tv,hc,hp⟩:=hp
     have HSP:=Lib.hid hsep
     simp only at hq'
     rcases hc with ⟨h3,rfl,rfl⟩ | ⟨h3,rfl⟩
     ·rcases hp with ⟨-,rfl,hs⟩ | ⟨hne,-,-⟩
      ·rw [if_pos h3] at hq'
       cases hq'
       have HS:=Lib.hid hs
       clear hs hsep
       go_wp2_with fail
       go_ret
       exact ⟨rfl,HS.out,HSP.out⟩
      ·exact absurd rfl hne
     ·rcases hp with ⟨he,-,-⟩ | ⟨-,rfl,hs⟩
      ·cases he
      ·rw [if_neg h3] at hq'
       cases hq'
       have HS:=Lib.hid hs
       clear hs hsep
       go_wp2_with fail
       go_ret
       exact ⟨rfl,HS.out,HSP.out⟩
/-! Num. -/
def NumC (lo hi:Int) (y:JV) (er:Int) (tv:Value) (_:World):Prop:=(y.k=2∧¬ (y.n<lo∨hi<y.n)∧er=0∧tv=.int .i64 y.n)∨(y.k=2∧(y.n<lo∨hi<y.n)∧er=1)∨(y.k≠2∧er=10)
theorem numConv_any (y:JV) (yv:VC) (W:World) (B:Nat) (lo hi:Int) (lb hb:Nat) (h:NewV B W y yv.val) (hlo:W.cell? ⟨lb,0,none⟩=some (.int .i64 lo)) (hhi:W.cell? ⟨hb,0,none⟩=some (.int .i64 hi)) :
 Calls Tryz.prog 104 (#[yv.val] ++ #[.pointer (some ⟨lb,0,none⟩),.pointer (some ⟨hb,0,none⟩)]) W fun e W'=>∃ tv er,e=.returned (.tuple #[tv,.int .i64 er])∧Below W.heap.size W W'∧NumC lo hi y er tv W':=by
 obtain ⟨yk,yn,yt,ya,yl,yc,yb,ym,ye⟩:=yv
 obtain ⟨hk,hn,-,-,-,-,-⟩:=newv_parts h
 have HB:Hid (Below W.heap.size W (W.alloc (.cells #[.int .u8 yk,.int .i64 yn,.string yt,.slice ya yl yc,.slice yb ym ye] 29))):=bel_alloc (Below.refl _ _) _
 have hlo2:=cell_keep HB.out hlo
 have hhi2:=cell_keep HB.out hhi
 have hl1:=cell_lt hlo
 have hl2:=cell_lt hhi
 simp only at hl1 hl2
 clear h hlo hhi
 simp only [VC.val]
 by_cases h1:yk=2
 ·have hb2:(yk != 2)=false:=by rw [h1];rfl
  by_cases h2:yn<lo
  ·have hc:decide (yn<lo)=true:=decide_eq_true h2
   have HR:Hid (∀ W,NumC lo hi y 1 (.int .i64 0) W):=fun W=>Or.inr (Or.inl ⟨by rw [hk,h1],Or.inl (by rw [hn];exact h2),rfl⟩)
   clear hk hn h1
   go_enter Tryz.func104,Tryz.ntmps104
   go_wp2_with fail
   go_ret2
   exact ⟨_,_,rfl,HB.out,HR.out _⟩
  ·have hc:decide (yn<lo)=false:=decide_eq_false h2
   by_cases h3:hi<yn
   ·have hd:decide (hi<yn)=true:=decide_eq_true h3
    have HR:Hid (∀ W,NumC lo hi y 1 (.int .i64 0) W):=fun W=>Or.inr (Or.inl ⟨by rw [hk,h1],Or.inr (by rw [hn];exact h3),rfl⟩)
    clear hk hn h1
    go_enter Tryz.func104,Tryz.ntmps104
    go_wp2_with fail
    go_ret2
    exact ⟨_,_,rfl,HB.out,HR.out _⟩
   ·have hd:decide (hi<yn)=false:=decide_eq_false h3
    have HR:Hid (∀ W,NumC lo hi y 0 (.int .i64 yn) W):=fun W=>Or.inl ⟨by rw [hk,h1],by rw [hn];omega,rfl,by rw [hn]⟩
    clear hk hn h1
    go_enter Tryz.func104,Tryz.ntmps104
    go_wp2_with fail
    go_ret2
    exact ⟨_,_,rfl,HB.out,HR.out _⟩
 ·have hb2:(yk != 2)=true:=by rw [bne_iff_ne];exact h1
  have HR:Hid (∀ W,NumC lo hi y 10 (.int .i64 0) W):=fun W=>Or.inr (Or.inr ⟨by rw [hk];exact h1,rfl⟩)
  clear hk hn h1
  go_enter Tryz.func104,Tryz.ntmps104
  go_wp2_with fail
  go_ret2
  exact ⟨_,_,rfl,HB.out,HR.out _⟩
theorem pNum_any {Q w0 w:World} {o B:Nat} {V:JV} {x:VC} {s:PS} (h:PSt Q w0 w o B V x s) (nm:ByteArray) (lo hi:Int) (hA:∀ A,s=.ok A→A.length≤900) (hn:nm.size≤maxLen) (t:Int) (s':PS) (hq:Hid (numQ V nm lo hi s=(t,s'))) :
 Calls Tryz.prog 75 #[.pointer (some ⟨o,0,none⟩),.string nm,.int .i64 lo,.int .i64 hi] w fun e w'=>e=.returned (.int .i64 t)∧PStep s' Q w0 w o B V x w':=by
 obtain ⟨R1,hR1⟩:∃ R,getV V nm=R:=⟨_,rfl⟩
 have eg:∀ args w,(callFunc 104 args).run Tryz.prog w=.ok (.enter 104 args) w:=enters_of Tryz.func104 (by kernel_rfl) rfl
 obtain ⟨W,hW⟩:∃ W,W=(w.alloc (.cells #[.int .i64 lo] 2)).alloc (.cells #[.int .i64 hi] 2):=⟨_,rfl⟩
 have hb1:Below w.heap.size w W:=by rw [hW];exact bel_alloc (bel_alloc (Below.refl _ _) _) _
 have hc1:W.cell? ⟨w.heap.size,0,none⟩=some (.int .i64 lo):=by
  have:BlkAt W w.heap.size 2 #[.int .i64 lo]:=by rw [hW];exact (blkAt_new w _ _).alloc _
  exact this.cell 0
 have hc2:W.cell? ⟨w.heap.size+1,0,none⟩=some (.int .i64 hi):=by
  have:BlkAt W (w.heap.size+1) 2 #[.int .i64 hi]:=by
   rw [hW]
   have:=blkAt_new (w.alloc (.cells #[.int .i64 lo] 2)) #[.int .i64 hi] 2
   rwa [size_al] at this
  exact this.cell 0
 have HT:=Lib.hid (pTakeNum_any (h.keep hb1) nm hA hn 104 #[.pointer (some ⟨w.heap.size,0,none⟩),.pointer (some ⟨w.heap.size+1,0,none⟩)] (NumC lo hi) eg R1 (Lib.hid hR1) (fun y yv Y _ hbY hv=>numConv_any y yv Y _ lo hi _ _ hv (cell_keep hbY hc1) (cell_keep hbY hc2)) (fun _ _ _ _ _ _ hc=>hc))
 have HR:=Lib.hid hR1
 have H5:Hid (∀ A,s=.ok A→V.k=5):=fun A hA=>by subst hA;exact POk.five h
 have HB1:=Lib.hid hb1
 have HW:=Lib.hid hW
 clear h hA hn hR1 hb1 hc1 hc2 hW
 have hmf:∀ (fn:Fn) (first cap:Array Value) (w:World),(Instr.makeFunc fn first cap).run Tryz.prog w=.ok (.func fn first cap) w:=fun _ _ _ _=>rfl
 go_enter Tryz.func75,Tryz.ntmps75
 go_wp2_with fail
 rw [← HW.out]
 refine HT.out.mono ?_
 rintro e w' ⟨hsep,hp⟩
 have HSP:=Lib.hid (sepNew HB1.out hsep)
 have hq':=hq.out
 clear hsep HT
 cases s with
 | bad er =>
   obtain ⟨rfl,hs⟩:=hp
   rw [numQ,takeQ] at hq'
   cases hq'
   have HS:=Lib.hid hs
   clear hs
   go_wp2_with fail
   go_ret
   exact ⟨rfl,HS.out,HSP.out⟩
 | ok A =>
   rw [numQ,takeQ_get (H5.out A rfl) HR.out] at hq'
   cases R1 with
   | none =>
     obtain ⟨rfl,hs⟩:=hp
     cases hq'
     have HS:=Lib.hid hs
     clear hs
     go_wp2_with fail
     go_ret
     exact ⟨rfl,HS.out,HSP.out⟩
   | some y =>
     obtain ⟨er,tv,hc,hp⟩:=hp
     simp only at hq'
     rcases hc with ⟨h4,hl,rfl,rfl⟩ | ⟨h4,hl,rfl⟩ | ⟨h4,rfl⟩
     ·rcases hp with ⟨-,rfl,hs⟩ | ⟨hne,-,-⟩
      ·rw [if_pos h4] at hq'
       simp only at hq'
       rw [if_neg hl] at hq'
       cases hq'
       have HS:=Lib.hid hs
       clear hs
       go_wp2_with fail
       go_ret
       exact ⟨rfl,HS.out,HSP.out⟩
      ·exact absurd rfl hne
     ·rcases hp with ⟨he,-,-⟩ | ⟨-,rfl,hs⟩
      ·cases he
      ·rw [if_pos h4] at hq'
       simp only at hq'
       rw [if_pos hl] at hq'
       cases hq'
       have HS:=Lib.hid hs
       clear hs
       go_wp2_with fail
       go_ret
       exact ⟨rfl,HS.out,HSP.out⟩
     ·rcases hp with ⟨he,-,-⟩ | ⟨-,rfl,hs⟩
      ·cases he
      ·rw [if_neg h4] at hq'
       cases hq'
       have HS:=Lib.hid hs
       clear hs
       go_wp2_with fail
       go_ret
       exact ⟨rfl,HS.out,HSP.out⟩
/-! Texts. -/
def isTs (l:List JV):Bool:=l.all fun y=>decide (y.k=3)
def TextsC (most B0:Nat) (y:JV) (er:Int) (tv:Value) (W:World):Prop :=
 (y.k=4∧y.items.length≤most∧isTs y.items=true∧er=0∧∃ a c,tv=.slice a y.items.length c∧y.items.length≤c∧StrsAt (hidden (offB B0 none) W) tv (y.items.map JV.t))∨(y.k=4∧most<y.items.length∧er=5)∨(y.k=4∧y.items.length≤most∧isTs y.items=false∧er=10)∨(y.k≠4∧er=10)
theorem TextsC.up {most B0:Nat} {y:JV} {er:Int} {tv:Value} {W W':World} (hu:Up B0 W W') (h:TextsC most B0 y er tv W):TextsC most B0 y er tv W':=by
 rcases h with ⟨h1,h2,h3,h4,a,c,h5,h6,h7⟩ | h | h | h
 ·exact Or.inl ⟨h1,h2,h3,h4,a,c,h5,h6,h7.imp hu.val⟩
 ·exact Or.inr (Or.inl h)
 ·exact Or.inr (Or.inr (Or.inl h))
 ·exact Or.inr (Or.inr (Or.inr h))
theorem own_cap {w:World} {B:Nat} {T:TypeId} {a:Option Addr} {n c:Nat} {xs:List Value} (h:w.ownsRow B T 1 (.slice a n c) n xs):n≤c:=by
 rcases h.2 with ⟨e,-⟩ | ⟨g,cap,cur,e,-,-,hc,-⟩
 ·simp only [Value.slice.injEq] at e;omega
 ·simp only [Value.slice.injEq] at e;omega
theorem textsConv_any (y:JV) (yv:VC) (W:World) (B:Nat) (most mb:Nat) (hms:most≤100000) (h:NewV B W y yv.val) (hB:B≤W.heap.size) (hmb:W.cell? ⟨mb,0,none⟩=some (.int .i64 most)) :
 Calls Tryz.prog 100 (#[yv.val] ++ #[.pointer (some ⟨mb,0,none⟩)]) W fun e W'=>∃ tv er,e=.returned (.tuple #[tv,.int .i64 er])∧Below W.heap.size W W'∧TextsC most B y er tv W':=by
 obtain ⟨yk,yn,yt,ya,yl,yc,yb,ym,ye⟩:=yv
 have HB:Hid (Below W.heap.size W (W.alloc (.cells #[.int .u8 yk,.int .i64 yn,.string yt,.slice ya yl yc,.slice yb ym ye] 29))):=bel_alloc (Below.refl _ _) _
 have HI:=Lib.hid (pItems_any y ⟨yk,yn,yt,ya,yl,yc,yb,ym,ye⟩ _ B most (ValAt.imp (Up.of_below (B0:=B) HB.out).val h))
 have hmb2:=cell_keep HB.out hmb
 have hmlt:mb<W.heap.size:=cell_lt hmb
 obtain ⟨i0,hi,hz0,hz1,hz2⟩:=info_parts infoStr
 have HIN:=Lib.hid hi
 have HZ0:=Lib.hid hz0
 have HZ1:=Lib.hid hz1
 have HZ2:=Lib.hid hz2
 have HBB:=Lib.hid hB
 clear h hmb hi hz0 hz1 hz2 hB
 simp only [VC.val] at HI ⊢
 go_enter Tryz.func100,Tryz.ntmps100
 go_wp2_with fail
 refine HI.out.mono ?_
 rintro e W2 ⟨tv,er,rfl,hb2,hc,hnil⟩
 have HB2:=Lib.hid (below_more HB.out hb2)
 clear hb2 HI HB
 rcases hc with ⟨h4,hl,rfl,hit⟩ | ⟨h4,hl,rfl⟩ | ⟨h4,rfl⟩
 ·obtain ⟨n,hn⟩:∃ n,y.items.length=n:=⟨_,rfl⟩
  obtain ⟨ta,tc,rfl,-,hit⟩:=hit.parts
  rw [hn] at hl ⊢
  have HIT:Hid (∀ i x,y.items[i]?=some x→∃ b o vn vi,ta=some ⟨b,o,none⟩∧W2.cell? ⟨b,o+i*5,none⟩=some (.int .u8 x.k)∧W2.cell? ⟨b,o+i*5+1,none⟩=some (.int .i64 x.n)∧W2.cell? ⟨b,o+i*5+2,none⟩=some (.string x.t)∧W2.cell? ⟨b,o+i*5+3,none⟩=some vn∧W2.cell? ⟨b,o+i*5+4,none⟩=some vi∧x.t.size≤maxLen∧(∃ a l c,vn=.slice a l c)∧∃ a l c,vi=.slice a l c):=fun i x hx=>by
   obtain ⟨b,o,vn,vi,e,c0,c1,c2,c3,c4,-,-,-,-,ht,hns,his⟩:=hit i x hx
   obtain ⟨a1,l1,rfl,-⟩:=hns.parts
   obtain ⟨a2,l2,rfl,-⟩:=his.parts
   exact ⟨b,o,_,_,e,((hidden_cell _ _ _ _).1 c0).2.2,((hidden_cell _ _ _ _).1 c1).2.2,((hidden_cell _ _ _ _).1 c2).2.2,((hidden_cell _ _ _ _).1 c3).2.2,((hidden_cell _ _ _ _).1 c4).2.2,ht,⟨_,_,_,rfl⟩,⟨_,_,_,rfl⟩⟩
  have HN:=Lib.hid hn
  have H4:=Lib.hid h4
  clear hit hn h4 hnil
  go_wp2_with fail
  go_loopw [7,21] (fun tl i wr=>∃ (j:Nat) (va:Option Addr) (vc:Nat),j≤n∧i=.int .i64 j∧tl=.slice va j vc∧Hid (wr.ownsRow W2.heap.size 9 1 (.slice va j vc) j ((y.items.take j).map fun x=>.string x.t))∧Hid (isTs (y.items.take j)=true)∧Hid (Below W2.heap.size W2 wr)) (fun _ i _=>n - (intOf i).toNat)
  case atStart=>exact ⟨0,none,0,by omega,rfl,rfl,World.ownsRow_nil _ _ _ _,(by show _=_;simp [isTs]),Below.refl _ _⟩
  case round =>
   obtain ⟨j,va,vc,hj,rfl,rfl,HO,HA,HBr⟩:=hrel
   by_cases hjl:j<n
   ·obtain ⟨x,hx⟩:∃ x,y.items[j]?=some x:=⟨_,List.getElem?_eq_getElem (by rw [HN.out];exact hjl)⟩
    obtain ⟨b,o,_,_,rfl,c0,c1,c2,c3,c4,ht,⟨a1,l1,k1,rfl⟩,⟨a2,l2,k2,rfl⟩⟩:=HIT.out j x hx
    have c0:=cell_keep HBr.out c0
    have c1:=cell_keep HBr.out c1
    have c2:=cell_keep HBr.out c2
    have c3:=cell_keep HBr.out c3
    have c4:=cell_keep HBr.out c4
    have hj0:(0:Int)≤(j:Int):=by omega
    have hj1:(j:Int)<(n:Int):=by omega
    have HXX:=Lib.hid hx
    have HTZ:=Lib.hid ht
    obtain ⟨xk,xn,xt,xns,xis⟩:=x
    simp only [JV.k,JV.n,JV.t] at c0 c1 c2
    by_cases h3:xk=3
    ·have hb:(xk != 3)=false:=by rw [h3];rfl
     have HA2:Hid (isTs (y.items.take (j+1))=true):=by
      show _=_
      unfold isTs
      rw [List.take_add_one,HXX.out,List.all_append]
      have:=HA.out
      unfold isTs at this
      rw [this]
      simp [JV.k,h3]
     obtain ⟨W3,hW3⟩:∃ Y,Y=wr.alloc (.cells #[.int .u8 xk,.int .i64 xn,.string xt,.slice a1 l1 k1,.slice a2 l2 k2] 29):=⟨_,rfl⟩
     have hb3:Below wr.heap.size wr W3:=by rw [hW3];exact bel_alloc (Below.refl _ _) _
     have ho3:=World.ownsRow.alloc (ownsRow_keep HO.out hb3) (.cells #[.string xt] 9)
     have hnc:∀ j u,[Value.string xt][j]?=some u→(W3.alloc (.cells #[.string xt] 9)).cell? ((⟨W3.heap.size,0,none⟩:Addr).add j)=some u:=fun j u hj=>by
      have hadd:(⟨W3.heap.size,0,none⟩:Addr).add j=⟨W3.heap.size,j,none⟩:=by unfold Addr.add;split <;> simp_all
      rw [hadd,cell_al_eq _ _ _ _ _ rfl]
      simpa using hj
     have hm3:W2.heap.size≤(W3.alloc (.cells #[.string xt] 9)).heap.size:=by rw [size_al];have h1:=hb3.size;have h2:=HBr.out.size;omega
     have HB3:Hid (Below W2.heap.size W2 (W3.alloc (.cells #[.string xt] 9))):=bel_alloc (below_more HBr.out hb3) _
     have HOA:=Lib.hid ho3
     have HNC:=Lib.hid hnc
     have HM3:=Lib.hid hm3
     rw [hW3] at HOA HNC HM3 HB3
     rw [size_al] at HNC
     have HLW:=Lib.hid HB2.out.size
     clear hx ht hb3 ho3 hnc hm3 hW3 HA h3
     go_wp2_with (at_builtin;refine wpList_append_own_at _ rfl _ _ 26 rfl W2.heap.size 9 i0 (.string ⟨#[]⟩) 1 16 Tryz.underlying26 HIN.out HZ0.out HZ1.out HZ2.out rfl (by decide) _ _ _ rfl HOA.out ⟨_,0,none⟩ 1 1 [.string xt] rfl rfl HNC.out (by intro u hu;rw [List.mem_singleton.1 hu];rfl) (by unfold maxLen;omega) (by omega) HM3.out ?_)
     intro v' w9 hown9 hgrow9 _ hat9
     obtain ⟨g9,p9,rfl,hg9,hg9'⟩:=World.ownsRow.form hown9 (by omega)
     have HO9:Hid (w9.ownsRow W2.heap.size 9 1 (.slice (some ⟨g9,0,none⟩) (j+1) p9) (j+1) ((y.items.take (j+1)).map fun x=>.string x.t)):=by
      show World.ownsRow _ _ _ _ _ _ _
      rw [List.take_add_one,HXX.out,List.map_append,List.map_take]
      exact hown9
     have HB9:Hid (Below W2.heap.size W2 w9):=HB3.out.grown hgrow9 (by have:=HB3.out.size;omega) (fun k hk=>(World.ownsRow.lt HO.out k hk).1)
     clear hown9 hgrow9 hat9 HOA HNC HM3 HB3 HO
     go_wp2_with fail
     exact ⟨⟨j+1,some ⟨g9,0,none⟩,p9,by omega,by go_num,rfl,HO9,HA2,HB9⟩,by simp [intOf];omega⟩
    ·have hb:(xk != 3)=true:=by rw [bne_iff_ne];exact h3
     have hno:isTs y.items=false:=List.all_eq_false.2 ⟨_,List.mem_of_getElem? HXX.out,by simp [JV.k,h3]⟩
     have HR:Hid (∀ W,TextsC most B y 10 (.slice none 0 0) W):=fun W=>Or.inr (Or.inr (Or.inl ⟨H4.out,by rw [HN.out];exact hl,hno,rfl⟩))
     have HBE:Hid (Below W.heap.size W (wr.alloc (.cells #[.int .u8 xk,.int .i64 xn,.string xt,.slice a1 l1 k1,.slice a2 l2 k2] 29))):=bel_alloc (below_more HB2.out HBr.out) _
     clear hx ht hno h3 HA
     go_wp2_with fail
     go_ret2
     exact ⟨_,_,rfl,HBE.out,HR.out _⟩
   ·have hj1:¬ (j:Int)<(n:Int):=by omega
    obtain rfl:j=n:=by omega
    have hall:=HA.out
    rw [List.take_of_length_le (by rw [HN.out];omega)] at hall
    have hown:=HO.out
    rw [List.take_of_length_le (by rw [HN.out];omega)] at hown
    have HR:Hid (TextsC most B y 0 (.slice va j vc) wr):=by
     refine Or.inl ⟨H4.out,by rw [HN.out];exact hl,hall,rfl,va,vc,by rw [HN.out],by rw [HN.out];exact own_cap hown,?_⟩
     have h1:=strs_own (B1:=W2.heap.size) (B:=B) (v:=.slice va j vc) (l:=y.items.map JV.t) (w:=wr) (by rw [List.length_map,HN.out,List.map_map];exact hown) (by have h1:=HBB.out;have h2:=HB2.out.size;omega) (fun s hs=>by
      obtain ⟨z,hz,rfl⟩:=List.mem_map.1 hs
      obtain ⟨i,hi⟩:=List.getElem?_of_mem hz
      obtain ⟨_,_,_,_,_,_,_,_,_,_,ht,-⟩:=HIT.out i z hi
      exact ht) (by rw [List.length_map,HN.out];omega)
     exact h1
    have HBE:=Lib.hid (below_more HB2.out HBr.out)
    clear hall hown HA HO
    go_wp2_with fail
    go_ret2
    exact ⟨_,_,rfl,HBE.out,HR.out⟩
 ·have HR:Hid (∀ W,TextsC most B y 5 (.slice none 0 0) W):=fun W=>Or.inr (Or.inl ⟨h4,hl,rfl⟩)
  obtain rfl:=hnil (by decide)
  clear h4 hl hnil
  go_wp2_with fail
  go_ret2
  exact ⟨_,_,rfl,HB2.out,HR.out _⟩
 ·have HR:Hid (∀ W,TextsC most B y 10 (.slice none 0 0) W):=fun W=>Or.inr (Or.inr (Or.inr ⟨h4,rfl⟩))
  obtain rfl:=hnil (by decide)
  clear h4 hnil
  go_wp2_with fail
  go_ret2
  exact ⟨_,_,rfl,HB2.out,HR.out _⟩
theorem pTexts_any {Q w0 w:World} {o B:Nat} {V:JV} {x:VC} {s:PS} (h:PSt Q w0 w o B V x s) (nm:ByteArray) (most:Nat) (hms:most≤100000) (hA:∀ A,s=.ok A→A.length≤900) (hn:nm.size≤maxLen) (l:List ByteArray) (s':PS) (hq:Hid (textsQ V nm most s=(l,s'))) :
 Calls Tryz.prog 73 #[.pointer (some ⟨o,0,none⟩),.string nm,.int .i64 most] w fun e w'=>(∃ a c,e=.returned (.slice a l.length c)∧l.length≤c∧StrsAt (hidden (offB w.heap.size none) w') (.slice a l.length c) l)∧PStep s' Q w0 w o B V x w':=by
 obtain ⟨R1,hR1⟩:∃ R,getV V nm=R:=⟨_,rfl⟩
 have eg:∀ args w,(callFunc 100 args).run Tryz.prog w=.ok (.enter 100 args) w:=enters_of Tryz.func100 (by kernel_rfl) rfl
 have hb1:Below w.heap.size w (w.alloc (.cells #[.int .i64 most] 3)):=bel_alloc (Below.refl _ _) _
 have hmc:(w.alloc (.cells #[.int .i64 most] 3)).cell? ⟨w.heap.size,0,none⟩=some (.int .i64 most):=(blkAt_new w #[.int .i64 most] 3).cell 0
 have HT:=Lib.hid (pTakeStrs_any (h.keep hb1) nm hA hn 100 #[.pointer (some ⟨w.heap.size,0,none⟩)] (TextsC most (w.heap.size+1)) eg R1 (Lib.hid hR1) (fun y yv W _ hbW hv=>textsConv_any y yv W _ most w.heap.size hms (by rw [size_al] at hv;exact hv) (by have:=hbW.size;rw [size_al] at this;exact this) (cell_keep hbW hmc)) (fun y er tv W W' hu hc=>TextsC.up (by rw [size_al] at hu;exact hu) hc))
 have HR:=Lib.hid hR1
 have H5:Hid (∀ A,s=.ok A→V.k=5):=fun A hA=>by subst hA;exact POk.five h
 have HB1:=Lib.hid hb1
 clear h hA hn hR1 hb1 hmc
 have hmf:∀ (fn:Fn) (first cap:Array Value) (w:World),(Instr.makeFunc fn first cap).run Tryz.prog w=.ok (.func fn first cap) w:=fun _ _ _ _=>rfl
 go_enter Tryz.func73,Tryz.ntmps73
 go_wp2_with fail
 refine HT.out.mono ?_
 rintro e w' ⟨hsep,hp⟩
 have HSP:=Lib.hid (sepNew HB1.out hsep)
 have hq':=hq.out
 clear hsep HT
 cases s with
 | bad er =>
   obtain ⟨rfl,hs⟩:=hp
   rw [textsQ,takeQ] at hq'
   cases hq'
   have HS:=Lib.hid hs
   clear hs
   go_wp2_with fail
   go_ret
   exact ⟨⟨none,0,rfl,Nat.le_refl _,strsAt_nil _⟩,HS.out,HSP.out⟩
 | ok A =>
   rw [textsQ,takeQ_get (H5.out A rfl) HR.out] at hq'
   cases R1 with
   | none =>
     obtain ⟨rfl,hs⟩:=hp
     cases hq'
     have HS:=Lib.hid hs
     clear hs
     go_wp2_with fail
     go_ret
     exact ⟨⟨none,0,rfl,Nat.le_refl _,strsAt_nil _⟩,HS.out,HSP.out⟩
   | some y =>
     obtain ⟨er,tv,hc,hp⟩:=hp
     simp only at hq'
     rcases hc with ⟨h4,hl,ht,rfl,ta,tc,rfl,hcap,hit⟩ | ⟨h4,hl,rfl⟩ | ⟨h4,hl,ht,rfl⟩ | ⟨h4,rfl⟩
     ·rcases hp with ⟨-,rfl,hs⟩ | ⟨hne,-,-⟩
      ·rw [if_pos h4] at hq'
       simp only at hq'
       rw [if_neg (by omega),if_pos (show y.items.all (fun y=>decide (y.k=3))=true from ht)] at hq'
       cases hq'
       have HS:=Lib.hid hs
       have HIT:=Lib.hid (hit.imp (hid_lower (Nat.le_succ _) _))
       clear hs hit
       go_wp2_with fail
       go_ret
       exact ⟨⟨ta,tc,by rw [List.length_map];(try rfl),by rw [List.length_map];exact hcap,by rw [List.length_map];exact HIT.out⟩,HS.out,HSP.out⟩
      ·exact absurd rfl hne
     ·rcases hp with ⟨he,-,-⟩ | ⟨-,rfl,hs⟩
      ·cases he
      ·rw [if_pos h4] at hq'
       simp only at hq'
       rw [if_pos hl] at hq'
       cases hq'
       have HS:=Lib.hid hs
       clear hs
       go_wp2_with fail
       go_ret
       exact ⟨⟨none,0,rfl,Nat.le_refl _,strsAt_nil _⟩,HS.out,HSP.out⟩
     ·rcases hp with ⟨he,-,-⟩ | ⟨-,rfl,hs⟩
      ·cases he
      ·rw [if_pos h4] at hq'
       simp only at hq'
       rw [if_neg (by omega),if_neg (by rw [show y.items.all (fun y=>decide (y.k=3))=false from ht];decide)] at hq'
       cases hq'
       have HS:=Lib.hid hs
       clear hs
       go_wp2_with fail
       go_ret
       exact ⟨⟨none,0,rfl,Nat.le_refl _,strsAt_nil _⟩,HS.out,HSP.out⟩
     ·rcases hp with ⟨he,-,-⟩ | ⟨-,rfl,hs⟩
      ·cases he
      ·rw [if_neg h4] at hq'
       cases hq'
       have HS:=Lib.hid hs
       clear hs
       go_wp2_with fail
       go_ret
       exact ⟨⟨none,0,rfl,Nat.le_refl _,strsAt_nil _⟩,HS.out,HSP.out⟩
end

section
set_option maxRecDepth 100000
open Go.RowKit
structure RX where
 r:RepoP
 a:Option Addr
 c:Nat
def RX.cells (g:RX):List Value:=[.string g.r.1,.slice g.a g.r.2.length g.c]
theorem RX.cells_len (g:RX):g.cells.length=2:=rfl
def rxCells (gs:List RX):List Value:=gs.flatMap RX.cells
theorem rxCells_snoc (gs:List RX) (g:RX):rxCells (gs++[g])=rxCells gs++g.cells:=by simp [rxCells]
theorem rxCells_get:∀ (gs:List RX) (i:Nat) (g:RX),gs[i]?=some g→∀ j,j<2→(rxCells gs)[i*2+j]?=g.cells[j]?
 | [],i,g,h,_,_=>by simp at h
 | y :: r,0,g,h,j,hj=>by
   simp at h;subst h
   show (y.cells++rxCells r)[0*2+j]?=_
   rw [Nat.zero_mul,Nat.zero_add,List.getElem?_append_left (by rw [RX.cells_len];omega)]
 | y :: r,i+1,g,h,j,hj=>by
   show (y.cells++rxCells r)[(i+1)*2+j]?=_
   rw [List.getElem?_append_right (by rw [RX.cells_len];omega),← rxCells_get r i g (by simpa using h) j hj,RX.cells_len]
   congr 1
   omega
def ReposOwn (w:World) (B:Nat) (v:Value) (gs:List RX):Prop:=w.ownsRow B 48 2 v gs.length (rxCells gs)∧∀ g ∈ gs,g.r.1.size≤maxLen∧StrsAt (hidden (offB B v.ownBlock) w) (.slice g.a g.r.2.length g.c) g.r.2
theorem ReposOwn.nil (w:World) (B:Nat):ReposOwn w B (.slice none 0 0) []:=⟨World.ownsRow_nil _ _ _ _,by simp⟩
theorem ReposOwn.keep {w w':World} {B:Nat} {v:Value} {gs:List RX} (h:ReposOwn w B v gs) (hb:Below w.heap.size w w'):ReposOwn w' B v gs :=
 ⟨ownsRow_keep h.1 hb,fun g hg=>⟨(h.2 g hg).1,(h.2 g hg).2.imp (hid_imp fun k hk hP=>⟨hP,hb.block k hk⟩)⟩⟩
theorem ReposOwn.snoc {wr W8 w9:World} {B:Nat} {v v':Value} {gs:List RX} {g:RX} (h:ReposOwn wr B v gs) (hb:Below wr.heap.size wr W8) (hB:B≤wr.heap.size) (hown:w9.ownsRow B 48 2 v' (gs.length+1) (rxCells gs++g.cells)) (hg:W8.grownBy w9 v.ownBlock) (hat:v'.ownBlock=v.ownBlock∨v'.ownBlock=some W8.heap.size)
 (h0:g.r.1.size≤maxLen) (h1:StrsAt (hidden (offB wr.heap.size none) W8) (.slice g.a g.r.2.length g.c) g.r.2):ReposOwn w9 B v' (gs++[g]):=by
 have hlt:∀ k,v.ownBlock=some k→k<wr.heap.size:=fun k hk=>(World.ownsRow.lt h.1 k hk).2
 have hs:=hb.size
 have ho:∀ p u,(hidden (offB B v.ownBlock) wr).cell? p=some u→(hidden (offB B v'.ownBlock) w9).cell? p=some u:=hid_imp fun k hk hP=>by
  obtain ⟨hk1,hk2⟩:=offB_no.1 hP
  refine ⟨offB_no.2 ⟨hk1,?_⟩,(hg.block k (by omega) (fun e=>hk2 e.symm)).trans (hb.block k hk)⟩
  rcases hat with e | e
  ·rw [e];exact hk2
  ·rw [e];intro e2;have:=Option.some.inj e2;omega
 have hn:∀ p u,(hidden (offB wr.heap.size none) W8).cell? p=some u→(hidden (offB B v'.ownBlock) w9).cell? p=some u:=hid_imp fun k hk hP=>by
  have hk1:=offB_none.1 hP
  have hne:v.ownBlock≠some k:=fun e=>by have:=hlt k e;omega
  refine ⟨offB_no.2 ⟨by omega,?_⟩,hg.block k hk (fun e=>hne e.symm)⟩
  rcases hat with e | e
  ·rw [e];exact hne
  ·rw [e];intro e2;have:=Option.some.inj e2;omega
 refine ⟨by rw [List.length_append,rxCells_snoc];exact hown,fun y hy=>?_⟩
 rcases List.mem_append.1 hy with hy | hy
 ·exact ⟨(h.2 y hy).1,(h.2 y hy).2.imp ho⟩
 ·rw [List.mem_singleton.1 hy]
  exact ⟨h0,h1.imp hn⟩
theorem ReposOwn.lower {w:World} {B:Nat} {v:Value} {gs:List RX} (h:ReposOwn w (B+1) v gs):ReposOwn w B v gs:=by
 refine ⟨⟨h.1.1,?_⟩,fun g hg=>⟨(h.2 g hg).1,(h.2 g hg).2.imp (hid_imp fun k _ hP=>⟨offB_no.2 ⟨by have:=(offB_no.1 hP).1;omega,(offB_no.1 hP).2⟩,rfl⟩)⟩⟩
 rcases h.1.2 with h' | ⟨g,cap,cur,e,hB,h'⟩
 ·exact Or.inl h'
 ·exact Or.inr ⟨g,cap,cur,e,by omega,h'⟩
theorem ReposOwn.out {w:World} {B:Nat} {v:Value} {gs:List RX} (h:ReposOwn w B v gs) (hl:gs.length≤9223372036854775807):ReposAt (hidden (offB B none) w) v (gs.map RX.r):=by
 have h':=h.1
 have hi:∀ p u,(hidden (offB B v.ownBlock) w).cell? p=some u→(hidden (offB B none) w).cell? p=some u:=hid_imp fun k hk hP=>⟨offB_none.2 (offB_no.1 hP).1,rfl⟩
 refine ⟨by rw [List.length_map];exact hl,?_⟩
 rcases h.1.2 with ⟨rfl,h0⟩ | ⟨g,cap,cur,rfl,hB,hcl,hcp,_⟩
 ·have:gs=[]:=List.length_eq_zero_iff.1 h0
  subst this
  exact ⟨none,0,rfl,fun i x hx=>by simp at hx⟩
 ·refine ⟨some ⟨g,0,none⟩,cap,by rw [List.length_map],fun i x hx=>?_⟩
  rw [List.getElem?_map] at hx
  obtain ⟨y,hy,rfl⟩:=Option.map_eq_some_iff.1 hx
  have hm:=List.mem_of_getElem? hy
  have hcc:=World.ownsRow.cells h' (g:=g) rfl
  have hadd:∀ j,(⟨g,0,none⟩:Addr).add j=⟨g,j,none⟩:=fun j=>by unfold Addr.add;split <;> simp_all
  have hcell:∀ j c,j<2→y.cells[j]?=some c→(hidden (offB B none) w).cell? ⟨g,0+i*2+j,none⟩=some c:=fun j c hj hc=>by
   refine (hidden_cell _ _ _ _).2 ⟨offB_none.2 hB,⟨_,_,hcl⟩,?_⟩
   rw [show 0+i*2+j=i*2+j by omega,← hadd]
   exact hcc _ _ ((rxCells_get gs i y hy j hj).trans hc)
  exact ⟨g,0,_,rfl,hcell 0 _ (by omega) rfl,hcell 1 _ (by omega) rfl,(h.2 y hm).1,(h.2 y hm).2.imp hi⟩
theorem infoRepo:(Tryz.prog.info? 48).map (fun i=>(i.zero,i.size,i.bytes))=some (some (.agg #[.string ⟨#[]⟩,.slice none 0 0]),2,40):=by kernel_rfl
def ReposPost (R:List RepoP × Int) (w:World) (e:Ending) (w':World):Prop :=
 ∃ (a:Option Addr) (c:Nat) (gs:List RX),e=.returned (.tuple #[.slice a gs.length c,.int .i64 R.2])∧Below w.heap.size w w'∧ReposOwn w' w.heap.size (.slice a gs.length c) gs∧gs.map RX.r=R.1
def repoCat (acc:List RepoP) (t:List RepoP × Int):List RepoP × Int:=if t.2=0 then (acc++t.1,0) else ([],t.2)
theorem repoGo_bad:∀ (ns:List ByteArray) (xs:List JV),(repoGo ns xs).2≠0→(repoGo ns xs).1=[]
 | [],_,_=>by simp [repoGo]
 | _ :: _,[],_=>by simp [repoGo]
 | n :: ns,x :: xs,h=>by
   rw [repoGo] at h ⊢
   by_cases h1:roleB n=false
   ·rw [if_pos h1]
   ·rw [if_neg h1] at h ⊢
    by_cases h2:x.k≠4
    ·rw [if_pos h2]
    ·rw [if_neg h2] at h ⊢
     by_cases h3:8<x.items.length
     ·rw [if_pos h3]
     ·rw [if_neg h3] at h ⊢
      by_cases h4:(x.items.all fun y=>decide (y.k=3))=false
      ·rw [if_pos h4]
      ·rw [if_neg h4] at h ⊢
       by_cases h5:(repoGo ns xs).2=0
       ·rw [if_pos h5] at h
        exact absurd rfl h
       ·rw [if_neg h5]
theorem repoGo_step {ns:List ByteArray} {xs:List JV} {j:Nat} {n:ByteArray} {x:JV} (hn:ns[j]?=some n) (hx:xs[j]?=some x) (acc:List RepoP):repoCat acc (repoGo (ns.drop j) (xs.drop j)) =
 if roleB n=false then ([],3) else if x.k≠4 then ([],10) else if 8<x.items.length then ([],5) else if isTs x.items=false then ([],10) else repoCat (acc++[(n,x.items.map JV.t)]) (repoGo (ns.drop (j+1)) (xs.drop (j+1))):=by
 obtain ⟨h1,h2⟩:=List.getElem?_eq_some_iff.1 hn
 obtain ⟨h3,h4⟩:=List.getElem?_eq_some_iff.1 hx
 rw [List.drop_eq_getElem_cons h1,List.drop_eq_getElem_cons h3,h2,h4,repoGo]
 unfold isTs
 split
 ·rfl
 ·split
  ·rfl
  ·split
   ·rfl
   ·split
    ·rfl
    ·by_cases h:(repoGo (ns.drop (j+1)) (xs.drop (j+1))).2=0
     ·simp [repoCat,h]
     ·simp [repoCat,h]
theorem reposOf_any (V:JV) (xv:VC) (w:World) (h:ValAt w V xv.val) (hl:V.names.length=V.items.length) (hsm:V.items.length≤1000000) :
 Calls Tryz.prog 38 #[xv.val] w (ReposPost (reposV V) w):=by
 obtain ⟨xk,xn,xt,xa,xl,xc,xb,xm,xe⟩:=xv
 obtain ⟨vn,vi,e1,-,-,-,-,-,hns,his⟩:=valAt_iff.1 h
 simp only [VC.val,Value.agg.injEq,Array.mk.injEq,List.cons.injEq,Value.int.injEq,Value.string.injEq,true_and,and_true] at e1
 obtain ⟨rfl,rfl,rfl,e4,e5⟩:=e1
 subst e4 e5
 obtain ⟨_,_,e6,-,hnz,hnc⟩:=hns.parts
 obtain ⟨_,_,e7,hml,hic⟩:=his.parts
 simp only [Value.slice.injEq] at e6 e7
 obtain ⟨rfl,hxl,rfl⟩:=e6
 obtain ⟨rfl,hxm,rfl⟩:=e7
 obtain ⟨R,hR⟩:∃ R,reposV V=R:=⟨_,rfl⟩
 rw [hR]
 unfold reposV at hR
 have hlm:xl=xm:=by rw [hxl,hxm,hl]
 subst hlm
 have HNC:=Lib.hid hnc
 have HNZ:=Lib.hid hnz
 have HIC:Hid (∀ i x,V.items[i]?=some x→∃ b o a1 l1 c1 a2 c2,xb=some ⟨b,o,none⟩∧w.cell? ⟨b,o+i*5,none⟩=some (.int .u8 x.k)∧w.cell? ⟨b,o+i*5+1,none⟩=some (.int .i64 x.n)∧w.cell? ⟨b,o+i*5+2,none⟩=some (.string x.t)∧w.cell? ⟨b,o+i*5+3,none⟩=some (.slice a1 l1 c1)∧w.cell? ⟨b,o+i*5+4,none⟩=some (.slice a2 x.items.length c2)∧ItemsAt w (.slice a2 x.items.length c2) x.items):=fun i x hx=>by
  obtain ⟨b,o,vn,vi,e,c0,c1,c2,c3,c4,-,-,-,-,-,hs,hi⟩:=hic i x hx
  obtain ⟨a1,l1,rfl,-⟩:=hs.parts
  obtain ⟨a2,l2,rfl,-⟩:=hi.parts
  exact ⟨b,o,a1,_,l1,a2,l2,e,c0,c1,c2,c3,c4,hi⟩
 have HXL:=Lib.hid hxl
 have HXM:=Lib.hid hxm
 obtain ⟨W,hW⟩:∃ W,W=w.alloc (.cells #[.int .u8 V.k,.int .i64 V.n,.string V.t,.slice xa xl xc,.slice xb xl xe] 29):=⟨_,rfl⟩
 have hBW:Below w.heap.size w W:=by rw [hW];exact bel_alloc (Below.refl _ _) _
 have HA:Hid (BlkAt W w.heap.size 29 #[.int .u8 V.k,.int .i64 V.n,.string V.t,.slice xa xl xc,.slice xb xl xe]):=by rw [hW];exact blkAt_new w _ _
 have HBW:=Lib.hid hBW
 have HW:=Lib.hid hW
 obtain ⟨a0,a1,a2,a3,a4,af⟩:=b5 HA.out
 have hxl2:xl≤1000000:=by rw [hxm];exact hsm
 clear h hns his hnc hnz hic hl hxl hxm hBW hW hsm
 by_cases hz:xl=0
 ·subst hz
  have hi0:V.items=[]:=List.eq_nil_of_length_eq_zero HXM.out.symm
  rw [if_pos hi0] at hR
  subst hR
  clear hi0
  simp only [VC.val]
  go_enter Tryz.func38,Tryz.ntmps38
  go_wp2_with fail
  rw [← HW.out]
  go_ret2
  exact ⟨none,0,[],rfl,HBW.out,ReposOwn.nil _ _,rfl⟩
 ·have hi0:V.items≠[]:=fun e=>hz (by rw [HXM.out,e];rfl)
  rw [if_neg hi0] at hR
  have g0:((xl:Int) == 0)=false:=beq_eq_false_iff_ne.2 (by omega)
  have HRR:Hid (repoCat [] (repoGo (V.names.drop 0) (V.items.drop 0))=R):=by
   show _=_
   rw [List.drop_zero,List.drop_zero,← hR]
   unfold repoCat
   by_cases h:(repoGo V.names V.items).2=0
   ·rw [if_pos h,List.nil_append,← h]
   ·rw [if_neg h]
    rw [← repoGo_bad _ _ h]
  obtain ⟨i0,hi,hz0,hz1,hz2⟩:=info_parts infoStr
  obtain ⟨r0,hr,hrz0,hrz1,hrz2⟩:=info_parts infoRepo
  have HI:=Lib.hid hi
  have HZ0:=Lib.hid hz0
  have HZ1:=Lib.hid hz1
  have HZ2:=Lib.hid hz2
  have HR0:=Lib.hid hr
  have HRZ0:=Lib.hid hrz0
  have HRZ1:=Lib.hid hrz1
  have HRZ2:=Lib.hid hrz2
  clear hi0 hR hz hi hz0 hz1 hz2 hr hrz0 hrz1 hrz2
  simp only [VC.val]
  go_enter Tryz.func38,Tryz.ntmps38
  go_wp2_with fail
  rw [← HW.out]
  go_loopw [4,17] (fun vl i wr=>∃ (j:Nat) (gs:List RX) (va:Option Addr) (vc:Nat),j≤xl∧i=.int .i64 j∧vl=.slice va j vc∧Hid (gs.length=j)∧Hid (ReposOwn wr (w.heap.size+1) (.slice va j vc) gs)∧Hid (repoCat (gs.map RX.r) (repoGo (V.names.drop j) (V.items.drop j))=R)∧Hid (Below w.heap.size w wr)∧Hid (BlkAt wr w.heap.size 29 #[.int .u8 V.k,.int .i64 V.n,.string V.t,.slice xa xl xc,.slice xb xl xe])) (fun _ i _=>xl - (intOf i).toNat)
  case atStart=>exact ⟨0,[],none,0,by omega,rfl,rfl,rfl,ReposOwn.nil _ _,HRR.out,HBW.out,HA.out⟩
  case round =>
   obtain ⟨j,gs,va,vc,hj,rfl,rfl,HGL,HO,HF,HB,HAr⟩:=hrel
   obtain ⟨wo,rfl⟩:∃ y,y=wr:=⟨wr,rfl⟩
   by_cases hjl:j<xl
   ·obtain ⟨x,hx⟩:∃ x,V.items[j]?=some x:=⟨_,List.getElem?_eq_getElem (by rw [← HXM.out];exact hjl)⟩
    obtain ⟨nm,hnm⟩:∃ x,V.names[j]?=some x:=⟨_,List.getElem?_eq_getElem (by rw [← HXL.out];exact hjl)⟩
    obtain ⟨b,o,a1,l1,k1,a2,k2,rfl,c0,c1,c2,c3,c4,hit⟩:=HIC.out j x hx
    obtain ⟨nb,no,rfl,cn⟩:=HNC.out j nm hnm
    have hnz:=HNZ.out nm (List.mem_of_getElem? hnm)
    have hstep:=repoGo_step hnm hx (gs.map RX.r)
    have hF:=HF.out
    rw [hstep] at hF
    have c0:=cell_keep HB.out c0
    have c1:=cell_keep HB.out c1
    have c2:=cell_keep HB.out c2
    have c3:=cell_keep HB.out c3
    have c4:=cell_keep HB.out c4
    have i0':(0:Int)≤(j:Int):=by omega
    have i1':(j:Int)<(xl:Int):=by omega
    obtain ⟨xk,xn,xt,xns,its⟩:=x
    simp only [JV.k,JV.n,JV.t,JV.items] at c0 c1 c2 c4 hit
    change (if roleB nm=false then ([],3) else if xk≠4 then ([],10) else if 8<its.length then ([],5) else if isTs its=false then ([],10) else repoCat (gs.map RX.r++[(nm,its.map JV.t)]) (repoGo (V.names.drop (j+1)) (V.items.drop (j+1))))=R at hF
    obtain ⟨m,hm⟩:∃ m,its.length=m:=⟨_,rfl⟩
    rw [hm] at c4 hit hF
    obtain ⟨w1,hw1⟩:∃ Y,Y=wo.alloc (.cells #[.int .u8 xk,.int .i64 xn,.string xt,.slice a1 l1 k1,.slice a2 m k2] 29):=⟨_,rfl⟩
    have hb1:Below wo.heap.size wo w1:=by rw [hw1];exact bel_alloc (Below.refl _ _) _
    have HT1:Hid (BlkAt w1 wo.heap.size 29 #[.int .u8 xk,.int .i64 xn,.string xt,.slice a1 l1 k1,.slice a2 m k2]):=by rw [hw1];exact blkAt_new _ _ _
    obtain ⟨v0,v1,v2,v3,v4,vf⟩:=b5 (HAr.out.keep hb1)
    have cn1:=cell_keep hb1 (cell_keep HB.out cn)
    have hs1:w1.heap.size=wo.heap.size+1:=by rw [hw1,size_al]
    have HRO:=Lib.hid (fun Y=>(role_any nm Y).mono fun e W' (h:e=.returned (.bool (roleB nm))∧Y=W')=>(⟨h.1,h.2.symm⟩:e=.returned (.bool (roleB nm))∧W'=Y))
    have HB1:=Lib.hid (below_more HB.out hb1)
    have HQ1:=Lib.hid hb1
    have HW1:=Lib.hid hw1
    have HS1:=Lib.hid hs1
    have HM:=Lib.hid hm
    have HIT:=Lib.hid hit
    have HNMZ:=Lib.hid hnz
    obtain ⟨tb,htb⟩:∃ b,wo.heap.size=b:=⟨_,rfl⟩
    have HTB:=Lib.hid htb
    rw [htb] at HT1 HS1
    obtain ⟨t0,t1,t2,t3,t4,tf⟩:=b5 HT1.out
    clear hx hnm hit hnz hstep hw1 hb1 hs1 hm htb cn HF
    have e3:=v3
    have ec:=cn1
    rw [HW1.out] at e3 ec
    cases ho:roleB nm with
    | false =>
      rw [ho,if_pos rfl] at hF
      subst hF
      rw [ho] at HRO
      clear ho
      go_wp2_with fail
      rw [← HW1.out,HTB.out]
      refine (HRO.out _).mono ?_
      rintro e w2 ⟨rfl,rfl⟩
      go_wp2_with fail
      go_ret2
      exact ⟨none,0,[],rfl,HB1.out,ReposOwn.nil _ _,rfl⟩
    | true =>
      rw [ho,if_neg (by decide)] at hF
      rw [ho] at HRO
      clear ho
      by_cases h4:xk=4
      ·have hb4:(xk != 4)=false:=by rw [h4];rfl
       rw [if_neg (by rw [h4];decide)] at hF
       by_cases h8:8<m
       ·have g8:(8:Int)<(m:Int):=by omega
        rw [if_pos h8] at hF
        subst hF
        clear h4
        go_wp2_with fail
        rw [← HW1.out,HTB.out]
        refine (HRO.out _).mono ?_
        rintro e w2 ⟨rfl,rfl⟩
        go_wp2_with fail
        go_ret2
        exact ⟨none,0,[],rfl,HB1.out,ReposOwn.nil _ _,rfl⟩
       ·have g8:¬ (8:Int)<(m:Int):=by omega
        rw [if_neg h8] at hF
        have HF2:=Lib.hid hF
        obtain ⟨w3,hw3⟩:∃ Y,Y=w1.alloc (.cells #[.string nm,.slice none 0 0] 48):=⟨_,rfl⟩
        have hb3:Below w1.heap.size w1 w3:=by rw [hw3];exact bel_alloc (Below.refl _ _) _
        have HR3:Hid (BlkAt w3 (tb+1) 48 #[.string nm,.slice none 0 0]):=by
         rw [hw3,← HS1.out]
         exact blkAt_new _ _ _
        have HT3:=Lib.hid (HT1.out.keep hb3)
        have HQ3:=Lib.hid (below_more HQ1.out hb3)
        have HW3:=Lib.hid hw3
        have hs3:w3.heap.size=tb+2:=by rw [hw3,size_al,HS1.out]
        obtain ⟨s0,s1,s2,s3,s4,sf⟩:=b5 HT3.out
        have z4:=s4
        rw [HW3.out] at z4
        clear hF h4 hw3 hb3
        go_wp2_with fail
        rw [← HW1.out,HTB.out]
        refine (HRO.out _).mono ?_
        rintro e w2 ⟨rfl,rfl⟩
        go_wp2_with fail
        rw [← HW3.out,HS1.out]
        have HB3:=Lib.hid (below_more HB1.out (show Below w2.heap.size w2 w3 by rw [HW3.out];exact bel_alloc (Below.refl _ _) _))
        obtain ⟨_,_,e7,-,hic2⟩:=HIT.out.parts
        simp only [Value.slice.injEq] at e7
        obtain ⟨rfl,-,rfl⟩:=e7
        have HI2:=Lib.hid hic2
        clear hic2
        go_loopw [45] (fun i wr=>∃ (k:Nat) (ua:Option Addr) (uc:Nat),k≤m∧i=.int .i64 k∧Hid (BlkAt wr (tb+1) 48 #[.string nm,.slice ua k uc])∧Hid (wr.ownsRow (tb+2) 9 1 (.slice ua k uc) k ((its.take k).map fun y=>.string y.t))∧Hid (isTs (its.take k)=true)∧Hid (Below wo.heap.size wo wr)) (fun i _=>m - (intOf i).toNat)
        case atStart=>exact ⟨0,none,0,by omega,rfl,HR3.out,World.ownsRow_nil _ _ _ _,(by show _=_;simp [isTs]),HQ3.out⟩
        case round =>
         obtain ⟨k,ua,uc,hk,rfl,HK,HU,HTS,HBi⟩:=hrel
         have hbw:=below_more HB.out HBi.out
         have htw:tb+1<wr.heap.size:=HK.out.lt
         have hwr:wo.heap.size≤tb:=by rw [HTB.out];exact Nat.le_refl _
         by_cases hkm:k<m
         ·obtain ⟨y,hy⟩:∃ x,its[k]?=some x:=⟨_,List.getElem?_eq_getElem (by rw [HM.out];exact hkm)⟩
          obtain ⟨b2,o2,_,_,rfl,d0,d1,d2,d3,d4,-,-,-,-,ht,hns,his⟩:=HI2.out k y hy
          obtain ⟨e1,g1,rfl,-⟩:=hns.parts
          obtain ⟨e2,g2,rfl,-⟩:=his.parts
          have d0:=cell_keep hbw d0
          have d1:=cell_keep hbw d1
          have d2:=cell_keep hbw d2
          have d3:=cell_keep hbw d3
          have d4:=cell_keep hbw d4
          have j0:(0:Int)≤(k:Int):=by omega
          have j1:(k:Int)<(m:Int):=by omega
          have HY:=Lib.hid hy
          have HYT:=Lib.hid ht
          obtain ⟨yk,yn,yt,yns,yis⟩:=y
          simp only [JV.k,JV.n,JV.t,JV.names,JV.items] at d0 d1 d2 d3 d4
          obtain ⟨f1,hf1⟩:∃ f,yns.length=f:=⟨_,rfl⟩
          obtain ⟨f2,hf2⟩:∃ f,yis.length=f:=⟨_,rfl⟩
          rw [hf1] at d3
          rw [hf2] at d4
          have hb5:Below wr.heap.size wr (wr.alloc (.cells #[.int .u8 yk,.int .i64 yn,.string yt,.slice e1 f1 g1,.slice e2 f2 g2] 29)):=bel_alloc (Below.refl _ _) _
          obtain ⟨u0,u1,uf⟩:=b2c (HK.out.keep hb5)
          have HK5:=Lib.hid (HK.out.keep hb5)
          have HBW5:=Lib.hid (below_more hbw hb5)
          have HBI5:=Lib.hid (below_more HBi.out hb5)
          clear hy ht hns his hf1 hf2
          by_cases h3:yk=3
          ·have hb3:(yk != 3)=false:=by rw [h3];rfl
           have HTS2:Hid (isTs (its.take (k+1))=true):=by
            show _=_
            unfold isTs
            rw [List.take_add_one,HY.out,List.all_append]
            have:=HTS.out
            unfold isTs at this
            rw [this]
            simp [JV.k,h3]
           have hnc:∀ j u,[Value.string yt][j]?=some u→((wr.alloc (.cells #[.int .u8 yk,.int .i64 yn,.string yt,.slice e1 f1 g1,.slice e2 f2 g2] 29)).alloc (.cells #[.string yt] 9)).cell? ((⟨wr.heap.size+1,0,none⟩:Addr).add j)=some u:=fun j u hj=>by
            have hadd:(⟨wr.heap.size+1,0,none⟩:Addr).add j=⟨wr.heap.size+1,j,none⟩:=by unfold Addr.add;split <;> simp_all
            rw [hadd,cell_al_eq _ _ _ _ _ (by rw [size_al])]
            simpa using hj
           have HNCC:=Lib.hid hnc
           have HUO:=Lib.hid (World.ownsRow.alloc (ownsRow_keep HU.out hb5) (.cells #[.string yt] 9))
           have HM3:Hid (tb+2≤((wr.alloc (.cells #[.int .u8 yk,.int .i64 yn,.string yt,.slice e1 f1 g1,.slice e2 f2 g2] 29)).alloc (.cells #[.string yt] 9)).heap.size):=by show _≤_;rw [size_al,size_al];omega
           have HB6:=Lib.hid (bel_alloc HBI5.out (.cells #[.string yt] 9))
           have HK6:=Lib.hid (HK5.out.alloc (.cells #[.string yt] 9))
           obtain ⟨y0,y1,yf⟩:=b2c HK6.out
           have hml2:m≤8:=by omega
           clear hnc hb5 hbw h3 HTS
           go_wp2_with (at_builtin;refine wpList_append_own_at _ rfl _ _ 26 rfl (tb+2) 9 i0 (.string ⟨#[]⟩) 1 16 Tryz.underlying26 HI.out HZ0.out HZ1.out HZ2.out rfl (by decide) _ _ _ rfl HUO.out ⟨_,0,none⟩ 1 1 [.string yt] rfl rfl HNCC.out (by intro u hu;rw [List.mem_singleton.1 hu];rfl) (by unfold maxLen;omega) (by omega) HM3.out ?_)
           intro v' w9 hown9 hgrow9 _ _
           obtain ⟨g9,p9,rfl,hg9,hg9'⟩:=World.ownsRow.form hown9 (by omega)
           have hlow:∀ q,(Value.slice ua k uc).ownBlock=some q→tb+2≤q:=fun q hq=>(World.ownsRow.lt HU.out q hq).1
           have hK9:BlkAt w9 (tb+1) 48 #[.string nm,.slice ua k uc]:=(hgrow9.block _ (by rw [size_al,size_al];omega) (fun e=>by have:=hlow _ e.symm;omega)).trans HK6.out
           have hB9:Below wo.heap.size wo w9:=HB6.out.grown hgrow9 (by have:=HB6.out.size;omega) (fun q hq=>by have:=hlow q hq;omega)
           obtain ⟨x0,x1,xf⟩:=b2c hK9
           have HKE:Hid (BlkAt (w9.setCell ⟨tb+1,1,none⟩ (.slice (some ⟨g9,0,none⟩) (k+1) p9)) (tb+1) 48 #[.string nm,.slice (some ⟨g9,0,none⟩) (k+1) p9]):=hK9.set 1 _
           have HUE:Hid ((w9.setCell ⟨tb+1,1,none⟩ (.slice (some ⟨g9,0,none⟩) (k+1) p9)).ownsRow (tb+2) 9 1 (.slice (some ⟨g9,0,none⟩) (k+1) p9) (k+1) ((its.take (k+1)).map fun y=>.string y.t)):=by
            refine row_far (b:=tb+1) ?_ (by intro e;have e2:tb+1=g9:=Option.some.inj e;omega) 1 _
            rw [List.take_add_one,HY.out,List.map_append,List.map_take]
            exact hown9
           have HBE:Hid (Below wo.heap.size wo (w9.setCell ⟨tb+1,1,none⟩ (.slice (some ⟨g9,0,none⟩) (k+1) p9))):=bel_set hB9 (p:=⟨tb+1,1,none⟩) (by show wo.heap.size≤tb+1;omega) _
           clear hown9 hgrow9 hlow hK9 hB9 HUO HU HNCC HM3 HB6 HK6 HK5 HK y0 y1 yf u0 u1 uf
           go_wp2_with fail
           exact ⟨⟨k+1,some ⟨g9,0,none⟩,p9,by omega,by go_num,HKE,HUE,HTS2,HBE⟩,by simp [intOf];omega⟩
          ·have hb3:(yk != 3)=true:=bne_iff_ne.2 h3
           have hno:isTs its=false:=List.all_eq_false.2 ⟨_,List.mem_of_getElem? HY.out,by simp [JV.k,h3]⟩
           have hF:=HF2.out
           rw [if_pos hno] at hF
           subst hF
           clear hno h3 hb5 hbw HTS HF2
           go_wp2_with fail
           go_ret2
           exact ⟨none,0,[],rfl,HBW5.out,ReposOwn.nil _ _,rfl⟩
         ·obtain rfl:k=m:=by omega
          have j1:¬ (k:Int)<(k:Int):=by omega
          have hall:=HTS.out
          rw [List.take_of_length_le (by rw [HM.out];exact Nat.le_refl _)] at hall
          have hun:=HU.out
          rw [List.take_of_length_le (by rw [HM.out];exact Nat.le_refl _)] at hun
          have hF:=HF2.out
          rw [if_neg (by rw [hall];decide)] at hF
          have HF3:=Lib.hid hF
          obtain ⟨u0,u1,uf⟩:=b2c HK.out
          have hst:StrsAt (hidden (offB wo.heap.size none) wr) (.slice ua k uc) (its.map JV.t):=by
           have h1:=strs_own (B1:=tb+2) (B:=wo.heap.size) (v:=.slice ua k uc) (l:=its.map JV.t) (w:=wr) (by rw [List.length_map,HM.out,List.map_map];exact hun) (by omega) (fun s hs=>by
            obtain ⟨z,hz,rfl⟩:=List.mem_map.1 hs
            obtain ⟨q,hq⟩:=List.getElem?_of_mem hz
            obtain ⟨_,_,_,_,_,_,_,_,_,_,_,_,_,_,ht,-⟩:=HI2.out q z hq
            exact ht) (by rw [List.length_map,HM.out];omega)
           exact h1
          have HST:=Lib.hid hst
          have HO8:=Lib.hid (World.ownsRow.alloc (ownsRow_keep HO.out.1 HBi.out) (.cells #[.string nm,.slice ua k uc] 48))
          have hnc:∀ j u,[Value.string nm,Value.slice ua k uc][j]?=some u→(wr.alloc (.cells #[.string nm,.slice ua k uc] 48)).cell? ((⟨wr.heap.size,0,none⟩:Addr).add j)=some u:=fun j u hj=>by
           have hadd:(⟨wr.heap.size,0,none⟩:Addr).add j=⟨wr.heap.size,j,none⟩:=by unfold Addr.add;split <;> simp_all
           rw [hadd,cell_al_eq _ _ _ _ _ rfl]
           simpa using hj
          have HNCC:=Lib.hid hnc
          have hone:∀ u ∈ [Value.string nm,Value.slice ua k uc],u.oneCell'=true:=fun u hu=>by
           simp only [List.mem_cons,List.not_mem_nil,or_false] at hu
           rcases hu with rfl | rfl <;> rfl
          have HONE:=Lib.hid hone
          have hm3:w.heap.size+1≤(wr.alloc (.cells #[.string nm,.slice ua k uc] 48)).heap.size:=by rw [size_al];have:=hbw.size;omega
          have HM3:=Lib.hid hm3
          have HBW8:=Lib.hid hbw
          rw [HGL.out] at HO8
          have hwb:w.heap.size≤wo.heap.size:=HB.out.size
          clear hall hun hF hst hnc hone hm3 hbw HF2 HTS HU
          go_wp2_with (at_builtin;refine wpList_append_own_at _ rfl _ _ 22 rfl (w.heap.size+1) 48 r0 (.agg #[.string ⟨#[]⟩,.slice none 0 0]) 2 40 Tryz.underlying22 HR0.out HRZ0.out HRZ1.out HRZ2.out rfl (by decide) _ _ _ rfl HO8.out ⟨_,0,none⟩ 1 1 [.string nm,.slice ua k uc] rfl rfl HNCC.out HONE.out (by unfold maxLen;omega) (by omega) HM3.out ?_)
          intro v' w9 hown9 hgrow9 _ hat9
          obtain ⟨g9,p9,rfl,hg9,hg9'⟩:=World.ownsRow.form hown9 (by omega)
          have hat9:=hat9.imp_right (fun e:(Value.slice (some ⟨g9,0,none⟩) (j+1) p9).ownBlock=some (wr.heap.size+1)=>(show (Value.slice (some ⟨g9,0,none⟩) (j+1) p9).ownBlock=some (wr.alloc (.cells #[.string nm,.slice ua k uc] 48)).heap.size by rw [e,size_al]))
          have hown:∀ q,(Value.slice va j vc).ownBlock=some q→w.heap.size+1≤q∧q<wo.heap.size:=fun q hq=>World.ownsRow.lt HO.out.1 q hq
          have hlw:=HAr.out.lt
          have hlo:=HBi.out.size
          have hA9:BlkAt w9 w.heap.size 29 #[.int .u8 V.k,.int .i64 V.n,.string V.t,.slice (some ⟨nb,no,none⟩) xl xc,.slice (some ⟨b,o,none⟩) xl xe]:=(hgrow9.block _ (by rw [size_al];omega) (fun e=>by
           have h1:=hown _ e.symm
           omega)).trans (((bel_alloc (Below.refl _ wr) _).block _ (by omega)).trans (HAr.out.keep HBi.out))
          have hb9:Below w.heap.size w w9:=(bel_alloc HBW8.out _).grown hgrow9 (by rw [size_al];have:=HBW8.out.size;omega) (fun q hq=>by have:=(hown q hq).1;omega)
          have hsn:ReposOwn w9 (w.heap.size+1) (.slice (some ⟨g9,0,none⟩) (j+1) p9) (gs++[⟨(nm,its.map JV.t),ua,uc⟩]):=by
           refine ReposOwn.snoc (g:=⟨(nm,its.map JV.t),ua,uc⟩) HO.out (bel_alloc HBi.out (.cells #[.string nm,.slice ua k uc] 48)) hlw ?_ hgrow9 hat9 HNMZ.out ?_
           ·rw [HGL.out]
            show w9.ownsRow _ _ _ _ _ (rxCells gs++[.string nm,.slice ua (its.map JV.t).length uc])
            rw [List.length_map,HM.out]
            exact hown9
           ·show StrsAt _ (.slice ua (its.map JV.t).length uc) (its.map JV.t)
            rw [List.length_map,HM.out]
            exact HST.out.imp (hid_imp fun q hq hP=>⟨hP,(bel_alloc (Below.refl _ wr) _).block q hq⟩)
          have HS9:=Lib.hid hsn
          have HB9:=Lib.hid hb9
          have HA9:=Lib.hid hA9
          have HGL9:Hid ((gs++[(⟨(nm,its.map JV.t),ua,uc⟩:RX)]).length=j+1):=by show _=_;rw [List.length_append,HGL.out];rfl
          have HF9:Hid (repoCat ((gs++[(⟨(nm,its.map JV.t),ua,uc⟩:RX)]).map RX.r) (repoGo (V.names.drop (j+1)) (V.items.drop (j+1)))=R):=by
           show _=_
           rw [List.map_append]
           exact HF3.out
          clear hown9 hgrow9 hat9 hown hA9 hb9 hsn HO HST HO8 HNCC HONE HM3 HBW8 u0 u1 uf hlw hlo
          go_wp2_with fail
          exact ⟨⟨j+1,_,some ⟨g9,0,none⟩,p9,by omega,by go_num,rfl,HGL9,HS9,HF9,HB9,HA9⟩,by simp [intOf];omega⟩
      ·have hb4:(xk != 4)=true:=bne_iff_ne.2 h4
       rw [if_pos h4] at hF
       subst hF
       clear h4
       go_wp2_with fail
       rw [← HW1.out,HTB.out]
       refine (HRO.out _).mono ?_
       rintro e w2 ⟨rfl,rfl⟩
       go_wp2_with fail
       go_ret2
       exact ⟨none,0,[],rfl,HB1.out,ReposOwn.nil _ _,rfl⟩
   ·obtain rfl:j=xl:=by omega
    have hj1:¬ (j:Int)<(j:Int):=by omega
    have hF:=HF.out
    rw [List.drop_of_length_le (by rw [← HXL.out];exact Nat.le_refl _),List.drop_of_length_le (by rw [← HXM.out];exact Nat.le_refl _)] at hF
    have hR2:R=(gs.map RX.r,0):=by rw [← hF];simp [repoCat,repoGo]
    have HR2:=Lib.hid hR2
    clear hF hR2 HF
    go_wp2_with fail
    go_ret2
    refine ⟨va,vc,gs,by rw [HR2.out,HGL.out];rfl,HB.out,by rw [HGL.out];exact HO.out.lower,by rw [HR2.out]⟩
end

section
set_option maxRecDepth 100000
open Go.RowKit Go.Maps
def POf2 (V:JV) (w:World) (e:Ending) (w':World):Prop :=
 ∃ (o B:Nat) (Q w0:World) (x:VC),(∀ p u,Q.cell? p=some u→w.heap.size≤p.block)∧e=.returned (.pointer (some ⟨o,0,none⟩))∧Below w.heap.size w w'∧Below w.heap.size w w0∧w.heap.size≤o∧w.heap.size≤B∧o<w'.heap.size∧B<w'.heap.size∧PSt Q w0 w' o B V x (pickQ V)
theorem pOf2_any (V:JV) (x:VC) (w:World) (h:ValAt (pureW w) V x.val) (hf:Fit V) (hwt:wt V≤1000000000) :
 Calls Tryz.prog 37 #[x.val] w (POf2 V w):=by
 obtain ⟨vn,vi,hxe,-,-,-,-,-,hns,his⟩:=valAt_iff.1 h
 obtain ⟨xk,xn,xt,xa,xl,xc,xb,xm,xe⟩:=x
 simp only [VC.val,Value.agg.injEq,Array.mk.injEq,List.cons.injEq,Value.int.injEq,Value.string.injEq,true_and,and_true] at hxe
 obtain ⟨e1,e2,e3,e4,e5⟩:=hxe
 rw [← e4] at hns
 rw [← e5] at his
 obtain ⟨xa',xcap,hxs,hxl,-,hnc⟩:=hns.parts
 obtain ⟨xi',xicap,hxi,hil,-⟩:=his.parts
 simp only [Value.slice.injEq] at hxs hxi
 obtain ⟨f1,f2,f3⟩:=hxs
 obtain ⟨f4,f5,f6⟩:=hxi
 subst f1
 have HV:=Lib.hid h
 have HNC:Hid (∀ i s,V.names[i]?=some s→∃ b o,xa=some ⟨b,o,none⟩∧w.cell? ⟨b,o+i,none⟩=some (.string s)):=fun i s hs=>by
  obtain ⟨b,o,e,hc⟩:=hnc i s hs
  exact ⟨b,o,e,(pure_cell hc).2⟩
 have HWT:=Lib.hid hwt
 have hB1:Below w.heap.size w (w.alloc (.cells #[.int .u8 xk,.int .i64 xn,.string xt,.slice xa xl xc,.slice xb xm xe] 29)):=bel_alloc (Below.refl _ _) _
 have HA:Hid (BlkAt (w.alloc (.cells #[.int .u8 xk,.int .i64 xn,.string xt,.slice xa xl xc,.slice xb xm xe] 29)) w.heap.size 29 #[.int .u8 xk,.int .i64 xn,.string xt,.slice xa xl xc,.slice xb xm xe]):=blkAt_new w _ _
 have s1:=size_al w (.cells #[.int .u8 xk,.int .i64 xn,.string xt,.slice xa xl xc,.slice xb xm xe] 29)
 obtain ⟨w1,hw1⟩:∃ y,y=w.alloc (.cells #[.int .u8 xk,.int .i64 xn,.string xt,.slice xa xl xc,.slice xb xm xe] 29):=⟨_,rfl⟩
 rw [← hw1] at hB1 HA s1
 have HW1:=Lib.hid hw1
 have HB1:=Lib.hid hB1
 obtain ⟨a0,a1,a2,a3,a4,af⟩:=b5 HA.out
 clear h hns his hnc e4 e5 hB1 hw1 hwt
 by_cases h5:V.k=5
 ·obtain ⟨hl,hasc⟩:=hf h5
  have hk5:xk=5:=by rw [e1,h5]
  have hlm:xl=xm:=by rw [f2,f5,hl]
  have hb5:(xk != 5)=false:=by rw [hk5];rfl
  subst hlm
  have hneb:((xl:Int) != (xl:Int))=false:=by simp
  have HASC:=Lib.hid hasc
  have H5:=Lib.hid h5
  have HL:=Lib.hid hl
  have HXL:=Lib.hid f2
  have hxl':xl≤9223372036854775807:=by rw [f2];exact hxl
  clear hf h5 hl hasc e1 e2 e3 f2 f3 f4 f5 f6 hk5 hxl hil
  go_enter Tryz.func37,Tryz.ntmps37
  simp only [VC.val]
  go_wp2_with fail
  rw [← HW1.out]
  go_loopw [3] (fun i wr=>∃ k:Nat,1≤k∧(k≤xl∨k=1)∧i=.int .i64 k∧∃ nq,wr=w1.drewN nq) (fun i _=>xl - (intOf i).toNat)
  case atStart=>exact ⟨1,by omega,Or.inr rfl,rfl,0,rfl⟩
  case round =>
   obtain ⟨k,hk1,hk,rfl,nq,rfl⟩:=hrel
   obtain ⟨j,rfl⟩:∃ j,k=j+1:=⟨k - 1,by omega⟩
   by_cases hlt:j+1<xl
   ·obtain ⟨s,hs⟩:∃ s,V.names[j+1]?=some s:=⟨_,List.getElem?_eq_getElem (by rw [← HXL.out];exact hlt)⟩
    obtain ⟨p,hp⟩:∃ s,V.names[j]?=some s:=⟨_,List.getElem?_eq_getElem (by rw [← HXL.out];omega)⟩
    obtain ⟨b,o,rfl,hcs⟩:=HNC.out (j+1) s hs
    obtain ⟨b',o',hbo,hcp⟩:=HNC.out j p hp
    simp only [Option.some.injEq,Addr.mk.injEq,and_true] at hbo
    obtain ⟨rfl,rfl⟩:=hbo
    have hb:Op.bytesLess p.toList s.toList=true:=by
     have h1:=HASC.out
     rw [ascB,List.all_eq_true] at h1
     have h2:=h1 j (List.mem_range.2 (by rw [← HXL.out];omega))
     simpa [lessAt,List.getD,hs,hp] using h2
    have hcs':=cell_keep HB1.out hcs
    have hcp':=cell_keep HB1.out hcp
    clear hs hp hcs hcp
    have hw1:IntKind.i64.wrap ((j:Int)+1 - 1)=(j:Int):=by rw [IntWalk.i64_in ((j:Int)+1 - 1) (by omega)];omega
    have hj0:(0:Int)≤(j:Int):=by omega
    have hj1:(j:Int)<(xl:Int):=by omega
    have hj2:(j:Int)+1<(xl:Int):=by omega
    have hj3:((j:Int)+1).toNat=j+1:=by omega
    go_wp2_with fail
    go_quiet (fail)
    go_wp2_with fail
    refine ⟨⟨j+1+1,by omega,by omega,by go_num,_,rfl⟩,?_⟩
    simp [intOf];omega
   ·have hj2:¬ (j:Int)+1<(xl:Int):=by omega
    have HBN:=Lib.hid (below_drewN HB1.out nq)
    have HCP:=Lib.hid (Copy_any V (VC.val ⟨xk,xn,xt,xa,xl,xc,xb,xl,xe⟩) (w1.drewN nq) (HV.out.imp (pure_keep (below_drewN HB1.out nq))) HWT.out)
    simp only [VC.val] at HCP
    have hmm:=@run_makeMap Tryz.prog
    go_wp2_with fail
    refine HCP.out.mono ?_
    rintro e w2 ⟨⟨yk,yn,yt,ya,yl,yc,yb,ym,ye⟩,rfl,hb2,hnew⟩
    have HB2:=Lib.hid hb2
    have HNEW:Hid (ValAt (hidden (offB (w1.drewN nq).heap.size none) w2) V (VC.val ⟨yk,yn,yt,ya,yl,yc,yb,ym,ye⟩)):=hnew
    clear hb2 hnew HCP
    simp only [VC.val]
    go_wp2_with fail
    go_ret
    have hbb:=bel_alloc (bel_alloc (Below.refl w2.heap.size w2) (.map #[] 0)) (.cells #[.int .u8 yk,.int .i64 yn,.string yt,.slice ya yl yc,.slice yb ym ye,.map (some w2.heap.size),.int .i64 0] 106)
    have hw12:=below_more HBN.out HB2.out
    refine ⟨w2.heap.size+1,w2.heap.size,hidden (offB (w1.drewN nq).heap.size none) w2,w2,⟨yk,yn,yt,ya,yl,yc,yb,ym,ye⟩,(fun p u hu=>by have h1:=offB_none.1 ((hidden_cell _ w2 p u).1 hu).1;have h2:=HBN.out.size;omega),rfl,below_more hw12 hbb,hw12,by have:=hw12.size;omega,hw12.size,by rw [size_al,size_al];omega,by rw [size_al,size_al];omega,?_⟩
    rw [pickQ,if_pos H5.out]
    refine ⟨hbb,fun p u hu=>?_,HNEW.out,H5.out,HL.out,HASC.out,HWT.out,by omega,by omega,by omega,?_,?_⟩
    ·obtain ⟨-,q2,q3⟩:=(hidden_cell _ w2 p u).1 hu
     exact (hidden_cell _ w2 p u).2 ⟨rfl,q2,q3⟩
    ·have:=blkAt_new (w2.alloc (.map #[] 0)) #[.int .u8 yk,.int .i64 yn,.string yt,.slice ya yl yc,.slice yb ym ye,.map (some w2.heap.size),.int .i64 0] 106
     rwa [size_al] at this
    ·exact (AskAt.made w2).keep (bel_alloc (Below.refl _ _) _)
 ·have hb5:(xk != 5)=true:=by rw [e1,bne_iff_ne];exact h5
  have hp:pickQ V=.bad 10:=by unfold pickQ;rw [if_neg h5]
  have HP:=Lib.hid hp
  clear h5 hf e1 e2 e3 f2 f3 f4 f5 f6 hxl hil hp
  go_enter Tryz.func37,Tryz.ntmps37
  simp only [VC.val]
  go_wp2_with fail
  rw [← HW1.out]
  go_ret
  refine ⟨w.heap.size+1,w.heap.size+1,hidden (fun _=>true) w1,w1,zC,(fun p u hu=>by have h1:=((hidden_cell _ w1 p u).1 hu).1;cases h1),rfl,bel_alloc HB1.out _,HB1.out,by omega,by omega,by rw [size_al];omega,by rw [size_al];omega,?_⟩
  rw [HP.out]
  have hn:=blkAt_new w1 #[.int .u8 0,.int .i64 0,.string ⟨#[]⟩,.slice none 0 0,.slice none 0 0,.map none,.int .i64 10] 106
  rw [s1] at hn
  exact ⟨bel_alloc (Below.refl _ _) _,by omega,by decide,_,_,_,_,_,_,hn⟩
theorem below_low {w0 w:World} (h:Below w0.heap.size w0 w) (b i:Nat) (v:Value):Below (w0.setCell ⟨b,i,none⟩ v).heap.size (w0.setCell ⟨b,i,none⟩ v) (w.setCell ⟨b,i,none⟩ v):=by
 refine ⟨h.os,h.tape,h.output,by rw [setCell_size,setCell_size];exact h.size,fun k hk=>?_⟩
 rw [setCell_size] at hk
 have hb:=h.block k hk
 by_cases e:k=b
 ·subst e
  simp only [World.setCell,Array.getElem?_modify,hb]
 ·rw [Below.heap_setCell _ _ _ _ e,Below.heap_setCell _ _ _ _ e]
  exact hb
theorem PSt.low {Q w0 w:World} {o B M:Nat} {V:JV} {x:VC} {s:PS} (h:PSt Q w0 w o B V x s) (hQ:∀ p u,Q.cell? p=some u→M≤p.block) (hM:M≤w0.heap.size) {b:Nat} (hb:b<M) (i:Nat) (v:Value):PSt Q (w0.setCell ⟨b,i,none⟩ v) (w.setCell ⟨b,i,none⟩ v) o B V x s:=by
 cases s with
 | bad e =>
   obtain ⟨c0,c1,c2,c3,c4,c5,hc⟩:=PBad.blk h
   have hlo:=PBad.lo h
   exact ⟨below_low (PBad.bel h) b i v,by rw [setCell_size];exact hlo,PBad.ne h,c0,c1,c2,c3,c4,c5,BlkAt.set_far hc (by omega) i v⟩
 | ok A =>
   have h':POk Q w0 w o B V x A:=h
   have hlo:=h'.lo
   have hlb:=h'.lb
   refine ⟨below_low h'.bel b i v,fun p u hu=>?_,h'.val,h'.five,h'.len,h'.asc,h'.wt,by rw [setCell_size];exact hlo,by rw [setCell_size];exact hlb,h'.ne,BlkAt.set_far h'.blk (by omega) i v,ask_same h'.ask (Below.heap_setCell _ _ _ _ (by show B≠b;omega))⟩
   have hp:=hQ p u hu
   obtain ⟨⟨cs,t,h1⟩,h2⟩:=pure_cell (h'.sub p u hu)
   have hne:p.block≠b:=by omega
   have hk:(w0.setCell ⟨b,i,none⟩ v).heap[p.block]?=w0.heap[p.block]?:=Below.heap_setCell _ _ _ _ hne
   refine (hidden_cell _ _ p u).2 ⟨rfl,⟨cs,t,hk.trans h1⟩,?_⟩
   unfold World.cell? at h2 ⊢
   rw [hk]
   exact h2
def MapgPost (V:JV) (R:List ByteArray) (w:World) (e:Ending) (w':World):Prop :=
 Below w.heap.size w w'∧((∃ (m:MapgP) (a1:Option Addr) (c1:Nat) (a2:Option Addr) (c2:Nat),mappingV V R=.ok m∧e=.returned (.tuple #[.agg #[.slice a1 m.paths.length c1,.slice a2 m.repos.length c2,.bool m.term,.int .i64 m.thr],.int .i64 0])∧m.repos.length≤c2∧StrsAt (hidden (offB w.heap.size none) w') (.slice a1 m.paths.length c1) m.paths∧StrsAt (hidden (offB w.heap.size none) w') (.slice a2 m.repos.length c2) m.repos)
 ∨∃ er:Int,er≠0∧mappingV V R=.bad er∧e=.returned (.tuple #[.agg #[.slice none 0 0,.slice none 0 0,.bool false,.int .i64 0],.int .i64 er]))
/-! How few were asked. -/
def Few (n:Nat) (s:PS):Prop:=∀ A,s=.ok A→A.length≤n
theorem few_pick (V:JV):Few 0 (pickQ V):=fun A h=>by
 unfold pickQ at h
 split at h
 ·cases h;exact Nat.le_refl _
 ·cases h
theorem few_fail {n:Nat} {s:PS} (h:Few n s) (e:Int):Few n (failQ e s):=fun A hA=>by
 cases s with
 | bad e'=>cases hA
 | ok A' =>
   rw [failQ] at hA
   split at hA
   ·cases hA;exact h A rfl
   ·cases hA
theorem few_take {n:Nat} {s s':PS} {R:Option JV} {V:JV} {nm:ByteArray} {k:Int} (h:Few n s) (he:takeQ V nm k s=(R,s')):Few (n+1) s':=fun A hA=>by
 subst hA
 cases s with
 | bad e=>rw [takeQ] at he;cases he
 | ok A' =>
   rw [takeQ] at he
   split at he
   ·cases he
   ·split at he
    ·cases he
     have:=h A' rfl
     rw [List.length_append,List.length_singleton]
     omega
    ·cases he
theorem few_texts {n m:Nat} {s s':PS} {R:List ByteArray} {V:JV} {nm:ByteArray} (h:Few n s) (he:textsQ V nm m s=(R,s')):Few (n+1) s':=fun A hA=>by
 obtain ⟨R1,s1,h1⟩:∃ R s1,takeQ V nm 4 s=(R,s1):=⟨_,_,rfl⟩
 rw [textsQ,h1] at he
 cases R1 with
 | none=>cases he;exact few_take h h1 A hA
 | some x =>
   simp only at he
   split at he
   ·cases he;cases hA
   ·split at he
    ·cases he;exact few_take h h1 A hA
    ·cases he;cases hA
theorem few_bool {n:Nat} {s s':PS} {R:Bool} {V:JV} {nm:ByteArray} (h:Few n s) (he:boolQ V nm s=(R,s')):Few (n+1) s':=fun A hA=>by
 obtain ⟨R1,s1,h1⟩:∃ R s1,takeQ V nm 1 s=(R,s1):=⟨_,_,rfl⟩
 rw [boolQ,h1] at he
 cases R1 with
 | none=>cases he;exact few_take h h1 A hA
 | some x=>cases he;exact few_take h h1 A hA
theorem few_num {n:Nat} {s s':PS} {R lo hi:Int} {V:JV} {nm:ByteArray} (h:Few n s) (he:numQ V nm lo hi s=(R,s')):Few (n+1) s':=fun A hA=>by
 obtain ⟨R1,s1,h1⟩:∃ R s1,takeQ V nm 2 s=(R,s1):=⟨_,_,rfl⟩
 rw [numQ,h1] at he
 cases R1 with
 | none=>cases he;exact few_take h h1 A hA
 | some x =>
   simp only at he
   split at he
   ·cases he;cases hA
   ·cases he;exact few_take h h1 A hA
theorem Few.le {n m:Nat} {s:PS} (h:Few n s) (hm:n≤m):∀ A,s=.ok A→A.length≤m:=fun A hA=>Nat.le_trans (h A hA) hm
/-! A picker younger than M. -/
def PI (M:Nat) (w:World) (o B:Nat) (V:JV) (x:VC) (s:PS):Prop:=∃ Q w0,(∀ p u,Q.cell? p=some u→M≤p.block)∧M≤w0.heap.size∧M≤o∧M≤B∧o<w.heap.size∧B<w.heap.size∧PSt Q w0 w o B V x s
theorem PI.keep {M:Nat} {w w':World} {o B:Nat} {V:JV} {x:VC} {s:PS} (h:PI M w o B V x s) (hb:Below w.heap.size w w'):PI M w' o B V x s:=by
 obtain ⟨Q,w0,h1,h2,h3,h4,h5,h6,h7⟩:=h
 exact ⟨Q,w0,h1,h2,h3,h4,Nat.lt_of_lt_of_le h5 hb.size,Nat.lt_of_lt_of_le h6 hb.size,h7.keep hb⟩
theorem PI.low {M:Nat} {w:World} {o B:Nat} {V:JV} {x:VC} {s:PS} (h:PI M w o B V x s) {b:Nat} (hb:b<M) (i:Nat) (v:Value):PI M (w.setCell ⟨b,i,none⟩ v) o B V x s:=by
 obtain ⟨Q,w0,h1,h2,h3,h4,h5,h6,h7⟩:=h
 exact ⟨Q,w0.setCell ⟨b,i,none⟩ v,h1,by rw [setCell_size];exact h2,h3,h4,by rw [setCell_size];exact h5,by rw [setCell_size];exact h6,h7.low h1 h2 hb i v⟩
theorem PI.step {M:Nat} {Q w0 w w':World} {o B:Nat} {V:JV} {x:VC} {s:PS} (h1:∀ p u,Q.cell? p=some u→M≤p.block) (h2:M≤w0.heap.size) (h3:M≤o) (h4:M≤B) (h5:o<w.heap.size) (h6:B<w.heap.size) (h:PSt Q w0 w' o B V x s) (hs:Sep w w' o (some B)):PI M w' o B V x s :=
 ⟨Q,w0,h1,h2,h3,h4,Nat.lt_of_lt_of_le h5 hs.size,Nat.lt_of_lt_of_le h6 hs.size,h⟩
theorem PI.fail {M:Nat} {w:World} {o B:Nat} {V:JV} {x:VC} {s:PS} (h:PI M w o B V x s) (e:Int) :
 Calls Tryz.prog 40 #[.pointer (some ⟨o,0,none⟩),.int .i64 e] w fun e' w'=>e'=.returned (.tuple #[])∧PI M w' o B V x (failQ e s)∧Sep w w' o (some B):=by
 obtain ⟨Q,w0,h1,h2,h3,h4,h5,h6,h7⟩:=h
 exact (pFail_any h7 e).mono fun e' w' ⟨k1,k2,k3⟩=>⟨k1,PI.step h1 h2 h3 h4 h5 h6 k2 k3,k3⟩
theorem PI.done {M:Nat} {w:World} {o B:Nat} {V:JV} {x:VC} {s:PS} (h:PI M w o B V x s) (hA:∀ A,s=.ok A→A.length≤1000) :
 Calls Tryz.prog 43 #[.pointer (some ⟨o,0,none⟩)] w fun e' w'=>e'=.returned (.int .i64 (doneQ V s))∧Below w.heap.size w w':=by
 obtain ⟨Q,w0,h1,h2,h3,h4,h5,h6,h7⟩:=h
 exact pDone_any h7 hA
theorem PI.texts {M:Nat} {w:World} {o B:Nat} {V:JV} {x:VC} {s:PS} (h:PI M w o B V x s) (nm:ByteArray) (most:Nat) (hms:most≤100000) (hA:∀ A,s=.ok A→A.length≤900) (hn:nm.size≤maxLen) (l:List ByteArray) (s':PS) (hq:Hid (textsQ V nm most s=(l,s'))) :
 Calls Tryz.prog 73 #[.pointer (some ⟨o,0,none⟩),.string nm,.int .i64 most] w fun e w'=>(∃ a c,e=.returned (.slice a l.length c)∧l.length≤c∧StrsAt (hidden (offB w.heap.size none) w') (.slice a l.length c) l)∧PI M w' o B V x s'∧Sep w w' o (some B):=by
 obtain ⟨Q,w0,h1,h2,h3,h4,h5,h6,h7⟩:=h
 exact (pTexts_any h7 nm most hms hA hn l s' hq).mono fun e' w' ⟨k1,k2,k3⟩=>⟨k1,PI.step h1 h2 h3 h4 h5 h6 k2 k3,k3⟩
theorem PI.bool {M:Nat} {w:World} {o B:Nat} {V:JV} {x:VC} {s:PS} (h:PI M w o B V x s) (nm:ByteArray) (hA:∀ A,s=.ok A→A.length≤900) (hn:nm.size≤maxLen) (t:Bool) (s':PS) (hq:Hid (boolQ V nm s=(t,s'))) :
 Calls Tryz.prog 74 #[.pointer (some ⟨o,0,none⟩),.string nm] w fun e w'=>e=.returned (.bool t)∧PI M w' o B V x s'∧Sep w w' o (some B):=by
 obtain ⟨Q,w0,h1,h2,h3,h4,h5,h6,h7⟩:=h
 exact (pBool_any h7 nm hA hn t s' hq).mono fun e' w' ⟨k1,k2,k3⟩=>⟨k1,PI.step h1 h2 h3 h4 h5 h6 k2 k3,k3⟩
theorem PI.num {M:Nat} {w:World} {o B:Nat} {V:JV} {x:VC} {s:PS} (h:PI M w o B V x s) (nm:ByteArray) (lo hi:Int) (hA:∀ A,s=.ok A→A.length≤900) (hn:nm.size≤maxLen) (t:Int) (s':PS) (hq:Hid (numQ V nm lo hi s=(t,s'))) :
 Calls Tryz.prog 75 #[.pointer (some ⟨o,0,none⟩),.string nm,.int .i64 lo,.int .i64 hi] w fun e w'=>e=.returned (.int .i64 t)∧PI M w' o B V x s'∧Sep w w' o (some B):=by
 obtain ⟨Q,w0,h1,h2,h3,h4,h5,h6,h7⟩:=h
 exact (pNum_any h7 nm lo hi hA hn t s' hq).mono fun e' w' ⟨k1,k2,k3⟩=>⟨k1,PI.step h1 h2 h3 h4 h5 h6 k2 k3,k3⟩
theorem strs_sep {w w':World} {n o B:Nat} {v:Value} {l:List ByteArray} (h:StrsAt (hidden (offB n none) w) v l) (hs:Sep w w' o (some B)) (ho:o<n) (hB:B<n):StrsAt (hidden (offB n none) w') v l :=
 h.imp (hid_imp fun k hk hP=>⟨hP,hs.block k hk (by have:=offB_none.1 hP;omega) (fun e=>by have:=offB_none.1 hP;have:=Option.some.inj e;omega)⟩)
theorem strs_set {w:World} {n b:Nat} {v:Value} {l:List ByteArray} (h:StrsAt (hidden (offB n none) w) v l) (hb:b<n) (i:Nat) (u:Value):StrsAt (hidden (offB n none) (w.setCell ⟨b,i,none⟩ u)) v l :=
 h.imp (hid_imp fun k hk hP=>⟨hP,Below.heap_setCell _ _ _ _ (by have:=offB_none.1 hP;show k≠b;omega)⟩)
theorem strs_bel {w w':World} {n:Nat} {v:Value} {l:List ByteArray} (h:StrsAt (hidden (offB n none) w) v l) (hb:Below w.heap.size w w'):StrsAt (hidden (offB n none) w') v l :=
 h.imp (hid_imp fun k hk hP=>⟨hP,hb.block k hk⟩)
theorem strs_low {w:World} {n m:Nat} {v:Value} {l:List ByteArray} (h:StrsAt (hidden (offB n none) w) v l) (hm:m≤n):StrsAt (hidden (offB m none) w) v l :=
 h.imp (hid_imp fun k hk hP=>⟨offB_none.2 (by have:=offB_none.1 hP;omega),rfl⟩)
theorem strs_pl {w:World} {n:Nat} {v:Value} {l:List ByteArray} (h:StrsAt (hidden (offB n none) w) v l):StrsAt w v l :=
 h.imp fun p u hu=>((hidden_cell _ w p u).1 hu).2.2
theorem blk_sep {w w':World} {b o B:Nat} {T:TypeId} {cs:Array Value} (h:BlkAt w b T cs) (hs:Sep w w' o (some B)) (h1:b<o) (h2:b<B):BlkAt w' b T cs :=
 (hs.block b h.lt (by omega) (fun e=>by have:=Option.some.inj e;omega)).trans h
theorem mappingOf_any (V:JV) (x:VC) (R:List RepoP) (u:Value) (w:World) (h:ValAt (pureW w) V x.val) (hf:Fit V) (hwt:wt V≤1000000000) (hr:ReposAt w u R) :
 Calls Tryz.prog 42 #[x.val,u] w (MapgPost V (namesR R) w):=by
 have hpf:=fun W (hb:Below w.heap.size w W)=>pOf2_any V x W (h.imp (pure_keep hb)) hf hwt
 unfold POf2 at hpf
 obtain ⟨s0,hs0⟩:∃ s,pickQ V=s:=⟨_,rfl⟩
 obtain ⟨p,s1,hs1⟩:∃ p s1,textsQ V tPaths 32 s0=(p,s1):=⟨_,_,rfl⟩
 obtain ⟨s2,hs2⟩:∃ s,failQ (wrongPathsV p) s1=s:=⟨_,rfl⟩
 obtain ⟨r,s3,hs3⟩:∃ p s1,textsQ V tRepos 8 s2=(p,s1):=⟨_,_,rfl⟩
 obtain ⟨s4,hs4⟩:∃ s,failQ (wrongReposV r (namesR R)) s3=s:=⟨_,rfl⟩
 obtain ⟨tb,s5,hs5⟩:∃ p s1,boolQ V tTerm s4=(p,s1):=⟨_,_,rfl⟩
 obtain ⟨tn,s6,hs6⟩:∃ p s1,numQ V tThr 1 r.length s5=(p,s1):=⟨_,_,rfl⟩
 have hmv:mappingV V (namesR R)=if doneQ V s6≠0 then .bad (doneQ V s6) else .ok ⟨p,r,tb,tn⟩:=by
  unfold mappingV
  simp only [hs0,hs1,hs2,hs3,hs4,hs5,hs6]
 have f0:Few 0 s0:=hs0 ▸ few_pick V
 have f1:=few_texts f0 hs1
 have f2:Few 1 s2:=hs2 ▸ few_fail f1 _
 have f3:=few_texts f2 hs3
 have f4:Few 2 s4:=hs4 ▸ few_fail f3 _
 have f5:=few_bool f4 hs5
 have f6:=few_num f5 hs6
 rw [hs0] at hpf
 have HOF:=Lib.hid hpf
 have HF0:=Lib.hid (f0.le (show 0≤900 by omega))
 have HF2:=Lib.hid (f2.le (show 1≤900 by omega))
 have HF4:=Lib.hid (f4.le (show 2≤900 by omega))
 have HF5:=Lib.hid (f5.le (show 2+1≤900 by omega))
 have HF6:=Lib.hid (f6.le (show 2+1+1≤1000 by omega))
 have HS1:=Lib.hid hs1
 have HS2:=Lib.hid hs2
 have HS3:=Lib.hid hs3
 have HS4:=Lib.hid hs4
 have HS5:=Lib.hid hs5
 have HS6:=Lib.hid hs6
 have HMV:=Lib.hid hmv
 have HRA:=Lib.hid hr
 have HN1:Hid (tPaths.size≤maxLen):=by show _≤_;decide
 have HN2:Hid (tRepos.size≤maxLen):=by show _≤_;decide
 have HN3:Hid (tTerm.size≤maxLen):=by show _≤_;decide
 have HN4:Hid (tThr.size≤maxLen):=by show _≤_;decide
 obtain ⟨xk,xn,xt,xa,xl,xc,xb,xm,xe⟩:=x
 obtain ⟨W,hW⟩:∃ W,W=((w.alloc (.cells #[.int .u8 xk,.int .i64 xn,.string xt,.slice xa xl xc,.slice xb xm xe] 29)).alloc (.cells #[.slice none 0 0,.slice none 0 0,.bool false,.int .i64 0] 55)).alloc (.cells #[.slice none 0 0,.slice none 0 0,.bool false,.int .i64 0] 55):=⟨_,rfl⟩
 have hbW:Below w.heap.size w W:=by rw [hW];exact bel_alloc (bel_alloc (bel_alloc (Below.refl _ _) _) _) _
 have hsW:W.heap.size=w.heap.size+3:=by rw [hW,size_al,size_al,size_al]
 have HRB:Hid (BlkAt W (w.heap.size+1) 55 #[.slice none 0 0,.slice none 0 0,.bool false,.int .i64 0]):=by
  rw [hW]
  have:=(blkAt_new (w.alloc (.cells #[.int .u8 xk,.int .i64 xn,.string xt,.slice xa xl xc,.slice xb xm xe] 29)) #[.slice none 0 0,.slice none 0 0,.bool false,.int .i64 0] 55).alloc (.cells #[.slice none 0 0,.slice none 0 0,.bool false,.int .i64 0] 55)
  rwa [size_al] at this
 have HMB:Hid (BlkAt W (w.heap.size+2) 55 #[.slice none 0 0,.slice none 0 0,.bool false,.int .i64 0]):=by
  rw [hW]
  have:=blkAt_new ((w.alloc (.cells #[.int .u8 xk,.int .i64 xn,.string xt,.slice xa xl xc,.slice xb xm xe] 29)).alloc (.cells #[.slice none 0 0,.slice none 0 0,.bool false,.int .i64 0] 55)) #[.slice none 0 0,.slice none 0 0,.bool false,.int .i64 0] 55
  rwa [size_al,size_al] at this
 have HBW:=Lib.hid hbW
 have HW:=Lib.hid hW
 clear h hf hwt hr hs0 hs1 hs2 hs3 hs4 hs5 hs6 hmv f0 f1 f2 f3 f4 f5 f6 hW hbW hpf
 go_enter Tryz.func42,Tryz.ntmps42
 simp only [VC.val] at HOF ⊢
 go_wp2_with fail
 rw [← HW.out]
 refine (HOF.out _ HBW.out).mono ?_
 rintro e w2 ⟨o,B,Q,w0,x',hQ,rfl,hb2,hbw0,how,hBw,ho2,hB2,hd2⟩
 have hp2:PI (w.heap.size+3) w2 o B V x' s0:=⟨Q,w0,fun p u hu=>by rw [← hsW];exact hQ p u hu,by rw [← hsW];exact hbw0.size,by omega,by omega,ho2,hB2,hd2⟩
 have HR2:=Lib.hid (BlkAt.keep HRB.out hb2)
 have HM2:=Lib.hid (BlkAt.keep HMB.out hb2)
 have HB2:=Lib.hid (below_more HBW.out hb2)
 have HT:=Lib.hid (hp2.texts tPaths 32 (by omega) HF0.out HN1.out p s1 HS1)
 have hoM:w.heap.size+3≤o:=by omega
 have hBM:w.heap.size+3≤B:=by omega
 clear HOF HW HRB HMB HBW hb2 hbw0 hd2 hp2 hQ how hBw hsW W
 go_wp2_with fail
 refine HT.out.mono ?_
 rintro e w3 ⟨⟨a1,c1,rfl,hc1,hst3⟩,hp3,hsep3⟩
 have HR3:=Lib.hid (blk_sep HR2.out hsep3 (by omega) (by omega))
 have hm3:=blk_sep HM2.out hsep3 (by omega) (by omega)
 obtain ⟨m0,m1,m2,m3,mf⟩:=b4' hm3
 obtain ⟨w4,hw4⟩:∃ y,y=w3.setCell ⟨w.heap.size+2,0,none⟩ (.slice a1 p.length c1):=⟨_,rfl⟩
 have HR4:Hid (BlkAt w4 (w.heap.size+1) 55 #[.slice none 0 0,.slice none 0 0,.bool false,.int .i64 0]):=by
  rw [hw4];exact HR3.out.set_far (by omega) _ _
 have HM4:Hid (BlkAt w4 (w.heap.size+2) 55 #[.slice a1 p.length c1,.slice none 0 0,.bool false,.int .i64 0]):=by
  rw [hw4];exact hm3.set 0 _
 have HB4:Hid (Below w.heap.size w w4):=by
  rw [hw4]
  exact bel_set (hsep3.below HB2.out (by omega) (fun k hk=>by have:=Option.some.inj hk;omega)) (p:=⟨w.heap.size+2,0,none⟩) (by show w.heap.size≤w.heap.size+2;omega) _
 have HP4:Hid (PI (w.heap.size+3) w4 o B V x' s1):=by rw [hw4];exact hp3.low (by omega) _ _
 have hst4:StrsAt (hidden (offB w2.heap.size none) w4) (.slice a1 p.length c1) p:=by rw [hw4];exact strs_set hst3 (by omega) _ _
 have HST4:=Lib.hid hst4
 have hs4z:w2.heap.size≤w4.heap.size:=by rw [hw4,setCell_size];exact hsep3.size
 have HWP:=Lib.hid (wrongPaths_any p (.slice a1 p.length c1) w4 (strs_pl hst4))
 have HW4:=Lib.hid hw4
 obtain ⟨n2,hn2⟩:∃ n,w2.heap.size=n:=⟨_,rfl⟩
 rw [hn2] at HST4 ho2 hB2 hs4z
 clear HT HR3 HR2 HM2 HB2 hm3 hp3 hsep3 hst3 hst4 hw4 hn2
 go_wp2_with fail
 rw [← HW4.out]
 refine HWP.out.mono ?_
 rintro e w5 ⟨rfl,hb5⟩
 have HR5:=Lib.hid (HR4.out.keep hb5)
 have HM5:=Lib.hid (HM4.out.keep hb5)
 have HB5:=Lib.hid (below_more HB4.out hb5)
 have HST5:=Lib.hid (strs_bel HST4.out hb5)
 have HPF:=Lib.hid ((HP4.out.keep hb5).fail (wrongPathsV p))
 rw [HS2.out] at HPF
 have hs5z:n2≤w5.heap.size:=Nat.le_trans hs4z hb5.size
 clear HWP HW4 HR4 HM4 HB4 HST4 HP4 hb5 m0 m1 m2 m3 mf hs4z
 go_wp2_with fail
 refine HPF.out.mono ?_
 rintro e w6 ⟨rfl,hp6,hsep6⟩
 have HR6:=Lib.hid (blk_sep HR5.out hsep6 (by omega) (by omega))
 have HM6:=Lib.hid (blk_sep HM5.out hsep6 (by omega) (by omega))
 have HB6:Hid (Below w.heap.size w w6):=hsep6.below HB5.out (by omega) (fun k hk=>by have:=Option.some.inj hk;omega)
 have HST6:=Lib.hid (strs_sep HST5.out hsep6 ho2 hB2)
 have hs6z:n2≤w6.heap.size:=Nat.le_trans hs5z hsep6.size
 have HT:=Lib.hid (hp6.texts tRepos 8 (by omega) HF2.out HN2.out r s3 HS3)
 clear HPF HR5 HM5 HB5 HST5 hp6 hsep6 hs5z
 go_wp2_with fail
 refine HT.out.mono ?_
 rintro e w7 ⟨⟨a2,c2,rfl,hc2,hst7⟩,hp7,hsep7⟩
 have HR7:=Lib.hid (blk_sep HR6.out hsep7 (by omega) (by omega))
 have hm7:=blk_sep HM6.out hsep7 (by omega) (by omega)
 obtain ⟨m0,m1,m2,m3,mf⟩:=b4' hm7
 obtain ⟨w8,hw8⟩:∃ y,y=w7.setCell ⟨w.heap.size+2,1,none⟩ (.slice a2 r.length c2):=⟨_,rfl⟩
 have HR8:Hid (BlkAt w8 (w.heap.size+1) 55 #[.slice none 0 0,.slice none 0 0,.bool false,.int .i64 0]):=by
  rw [hw8];exact HR7.out.set_far (by omega) _ _
 have HM8:Hid (BlkAt w8 (w.heap.size+2) 55 #[.slice a1 p.length c1,.slice a2 r.length c2,.bool false,.int .i64 0]):=by
  rw [hw8];exact hm7.set 1 _
 have HB8:Hid (Below w.heap.size w w8):=by
  rw [hw8]
  exact bel_set (hsep7.below HB6.out (by omega) (fun k hk=>by have:=Option.some.inj hk;omega)) (p:=⟨w.heap.size+2,1,none⟩) (by show w.heap.size≤w.heap.size+2;omega) _
 have HP8:Hid (PI (w.heap.size+3) w8 o B V x' s3):=by rw [hw8];exact hp7.low (by omega) _ _
 have HST8:Hid (StrsAt (hidden (offB n2 none) w8) (.slice a1 p.length c1) p):=by rw [hw8];exact strs_set (strs_sep HST6.out hsep7 ho2 hB2) (by omega) _ _
 have hsr8:StrsAt (hidden (offB n2 none) w8) (.slice a2 r.length c2) r:=by rw [hw8];exact strs_set (strs_low hst7 hs6z) (by omega) _ _
 have HSR8:=Lib.hid hsr8
 have HWP:=Lib.hid (wrongRepos_any r R a2 r.length c2 u w8 rfl (strs_pl hsr8) hc2 (HRA.out.keep HB8.out))
 have HW8:=Lib.hid hw8
 clear HT HR7 HR6 HM6 HB6 hm7 hp7 hsep7 hst7 hsr8 hw8 HST6 hs6z
 go_wp2_with fail
 rw [← HW8.out]
 refine HWP.out.mono ?_
 rintro e w9 ⟨rfl,hb9⟩
 have HR9:=Lib.hid (HR8.out.keep hb9)
 have HM9:=Lib.hid (HM8.out.keep hb9)
 have HB9:=Lib.hid (below_more HB8.out hb9)
 have HST9:=Lib.hid (strs_bel HST8.out hb9)
 have HSR9:=Lib.hid (strs_bel HSR8.out hb9)
 have HPF:=Lib.hid ((HP8.out.keep hb9).fail (wrongReposV r (namesR R)))
 rw [HS4.out] at HPF
 clear HWP HW8 HR8 HM8 HB8 HST8 HSR8 HP8 hb9 m0 m1 m2 m3 mf
 go_wp2_with fail
 refine HPF.out.mono ?_
 rintro e w10 ⟨rfl,hp10,hsep10⟩
 have HRx:=Lib.hid (blk_sep HR9.out hsep10 (by omega) (by omega))
 have HMx:=Lib.hid (blk_sep HM9.out hsep10 (by omega) (by omega))
 have HBx:Hid (Below w.heap.size w w10):=hsep10.below HB9.out (by omega) (fun k hk=>by have:=Option.some.inj hk;omega)
 have HSTx:=Lib.hid (strs_sep HST9.out hsep10 ho2 hB2)
 have HSRx:=Lib.hid (strs_sep HSR9.out hsep10 ho2 hB2)
 have HT:=Lib.hid (hp10.bool tTerm HF4.out HN3.out tb s5 HS5)
 clear HPF HR9 HM9 HB9 HST9 HSR9 hp10 hsep10
 go_wp2_with fail
 refine HT.out.mono ?_
 rintro e w11 ⟨rfl,hp11,hsep11⟩
 have HR11:=Lib.hid (blk_sep HRx.out hsep11 (by omega) (by omega))
 have hm11:=blk_sep HMx.out hsep11 (by omega) (by omega)
 obtain ⟨m0,m1,m2,m3,mf⟩:=b4' hm11
 obtain ⟨w12,hw12⟩:∃ y,y=w11.setCell ⟨w.heap.size+2,2,none⟩ (.bool tb):=⟨_,rfl⟩
 have HR12:Hid (BlkAt w12 (w.heap.size+1) 55 #[.slice none 0 0,.slice none 0 0,.bool false,.int .i64 0]):=by
  rw [hw12];exact HR11.out.set_far (by omega) _ _
 have HM12:Hid (BlkAt w12 (w.heap.size+2) 55 #[.slice a1 p.length c1,.slice a2 r.length c2,.bool tb,.int .i64 0]):=by
  rw [hw12];exact hm11.set 2 _
 have HB12:Hid (Below w.heap.size w w12):=by
  rw [hw12]
  exact bel_set (hsep11.below HBx.out (by omega) (fun k hk=>by have:=Option.some.inj hk;omega)) (p:=⟨w.heap.size+2,2,none⟩) (by show w.heap.size≤w.heap.size+2;omega) _
 have hp12:PI (w.heap.size+3) w12 o B V x' s5:=by rw [hw12];exact hp11.low (by omega) _ _
 have HST12:Hid (StrsAt (hidden (offB n2 none) w12) (.slice a1 p.length c1) p):=by rw [hw12];exact strs_set (strs_sep HSTx.out hsep11 ho2 hB2) (by omega) _ _
 have HSR12:Hid (StrsAt (hidden (offB n2 none) w12) (.slice a2 r.length c2) r):=by rw [hw12];exact strs_set (strs_sep HSRx.out hsep11 ho2 hB2) (by omega) _ _
 have HT2:=Lib.hid (hp12.num tThr 1 r.length HF5.out HN4.out tn s6 HS6)
 have HW12:=Lib.hid hw12
 clear HT HRx HMx HBx HSTx HSRx HR11 hm11 hp11 hp12 hsep11 hw12
 go_wp2_with fail
 rw [← HW12.out]
 refine HT2.out.mono ?_
 rintro e w13 ⟨rfl,hp13,hsep13⟩
 have HR13:=Lib.hid (blk_sep HR12.out hsep13 (by omega) (by omega))
 have hm13:=blk_sep HM12.out hsep13 (by omega) (by omega)
 clear m0 m1 m2 m3 mf
 obtain ⟨m0,m1,m2,m3,mf⟩:=b4' hm13
 obtain ⟨w14,hw14⟩:∃ y,y=w13.setCell ⟨w.heap.size+2,3,none⟩ (.int .i64 tn):=⟨_,rfl⟩
 have HR14:Hid (BlkAt w14 (w.heap.size+1) 55 #[.slice none 0 0,.slice none 0 0,.bool false,.int .i64 0]):=by
  rw [hw14];exact HR13.out.set_far (by omega) _ _
 have HM14:Hid (BlkAt w14 (w.heap.size+2) 55 #[.slice a1 p.length c1,.slice a2 r.length c2,.bool tb,.int .i64 tn]):=by
  rw [hw14];exact hm13.set 3 _
 have HB14:Hid (Below w.heap.size w w14):=by
  rw [hw14]
  exact bel_set (hsep13.below HB12.out (by omega) (fun k hk=>by have:=Option.some.inj hk;omega)) (p:=⟨w.heap.size+2,3,none⟩) (by show w.heap.size≤w.heap.size+2;omega) _
 have hp14:PI (w.heap.size+3) w14 o B V x' s6:=by rw [hw14];exact hp13.low (by omega) _ _
 have HST14:Hid (StrsAt (hidden (offB n2 none) w14) (.slice a1 p.length c1) p):=by rw [hw14];exact strs_set (strs_sep HST12.out hsep13 ho2 hB2) (by omega) _ _
 have HSR14:Hid (StrsAt (hidden (offB n2 none) w14) (.slice a2 r.length c2) r):=by rw [hw14];exact strs_set (strs_sep HSR12.out hsep13 ho2 hB2) (by omega) _ _
 have HDN:=Lib.hid (hp14.done HF6.out)
 have HW14:=Lib.hid hw14
 clear HT2 HW12 HR12 HM12 HB12 HST12 HSR12 HR13 hm13 hp13 hp14 hsep13 hw14
 go_wp2_with fail
 rw [← HW14.out]
 refine HDN.out.mono ?_
 rintro e w15 ⟨rfl,hb15⟩
 clear m0 m1 m2 m3 mf
 obtain ⟨r0,r1,r2,r3,rf⟩:=b4' (HR14.out.keep hb15)
 obtain ⟨m0,m1,m2,m3,mf⟩:=b4' (HM14.out.keep hb15)
 have HB15:=Lib.hid (below_more HB14.out hb15)
 have HST15:=Lib.hid (strs_bel HST14.out hb15)
 have HSR15:=Lib.hid (strs_bel HSR14.out hb15)
 obtain ⟨dq,hdq⟩:∃ q,doneQ V s6=q:=⟨_,rfl⟩
 have hmv:=HMV.out
 rw [hdq] at hmv ⊢
 clear HDN HW14 HR14 HM14 HB14 HST14 HSR14 hb15 hdq HMV
 have HBE:Hid (∀ v0 v1 v2 v3:Value,Below w.heap.size w ((((w15.setCell ⟨w.heap.size+1,0,none⟩ v0).setCell ⟨w.heap.size+1,1,none⟩ v1).setCell ⟨w.heap.size+1,2,none⟩ v2).setCell ⟨w.heap.size+1,3,none⟩ v3)):=fun v0 v1 v2 v3=>bel_set (bel_set (bel_set (bel_set HB15.out (p:=⟨w.heap.size+1,0,none⟩) (Nat.le_succ _) v0) (p:=⟨w.heap.size+1,1,none⟩) (Nat.le_succ _) v1) (p:=⟨w.heap.size+1,2,none⟩) (Nat.le_succ _) v2) (p:=⟨w.heap.size+1,3,none⟩) (Nat.le_succ _) v3
 by_cases hd:dq=0
 ·subst hd
  rw [if_neg (by simp)] at hmv
  have HMV:=Lib.hid hmv
  clear hmv
  go_wp2_with fail
  refine bodyPost_ret (v:=.tuple #[.agg #[.slice a1 p.length c1,.slice a2 r.length c2,.bool tb,.int .i64 tn],.int .i64 0]) (by simp [results,Tryz.results42,go_sem,r0,r1,r2,r3]) rfl ⟨HBE.out _ _ _ _,Or.inl ⟨⟨p,r,tb,tn⟩,a1,c1,a2,c2,HMV.out,rfl,hc2,strs_low (strs_set (strs_set (strs_set (strs_set HST15.out (by omega) _ _) (by omega) _ _) (by omega) _ _) (by omega) _ _) (by omega),strs_low (strs_set (strs_set (strs_set (strs_set HSR15.out (by omega) _ _) (by omega) _ _) (by omega) _ _) (by omega) _ _) (by omega)⟩⟩
 ·rw [if_pos hd] at hmv
  have hdb:(dq != 0)=true:=bne_iff_ne.2 hd
  have HMV:=Lib.hid hmv
  have HD:=Lib.hid hd
  clear hmv hd
  go_wp2_with fail
  refine bodyPost_ret (v:=.tuple #[.agg #[.slice none 0 0,.slice none 0 0,.bool false,.int .i64 0],.int .i64 dq]) (by simp [results,Tryz.results42,go_sem,r0,r1,r2,r3]) rfl ⟨HBE.out _ _ _ _,Or.inr ⟨dq,HD.out,HMV.out,rfl⟩⟩
end
end Go.Proofs.YtchinankclckjaaGreatDoor
