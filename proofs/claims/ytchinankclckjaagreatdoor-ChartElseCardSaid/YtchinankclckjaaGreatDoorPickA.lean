/-
 The program's picker: where it stands; Err, Fail, Done.
-/
import Derived.Test.YtchinankclckjaaGreatDoorChartV2
import Derived.Test.YtchinankclckjaaGreatDoorChartV
import Derived.Maps.OwnOps
import Derived.Maps.Views
import Derived.StringKeys
namespace Go.Proofs.YtchinankclckjaaGreatDoor
set_option maxHeartbeats 8000000
set_option maxRecDepth 100000
open Go.RowKit Go.Maps
/-! How often a name was asked for. -/
def cntA (A:List ByteArray) (s:ByteArray):Nat:=(A.filter fun a=>a.data.toList == s.data.toList).length
theorem cntA_le (A:List ByteArray) (s:ByteArray):cntA A s≤A.length:=List.length_filter_le _ _
theorem cntA_zero (A:List ByteArray) (s:ByteArray):cntA A s=0↔(A.any fun a=>a.data.toList == s.data.toList)=false:=by
 unfold cntA
 rw [List.length_eq_zero_iff,List.filter_eq_nil_iff,List.any_eq_false]
theorem cntA_snoc (A:List ByteArray) (n s:ByteArray):cntA (A++[n]) s=cntA A s+if n.data.toList=s.data.toList then 1 else 0:=by
 unfold cntA
 rw [List.filter_append,List.length_append]
 by_cases h:n.data.toList=s.data.toList
 ·rw [if_pos h,List.filter_cons_of_pos (by simpa using h)];rfl
 ·rw [if_neg h,List.filter_cons_of_neg (by simpa using h)];rfl
theorem askLaw:Keyed Tryz.prog 9:=string_keyed Tryz.underlying9
theorem zeroInt (w:World):(zeroValue 3).run Tryz.prog w=.ok (.int .i64 0) w:=by kernel_rfl
theorem askKey {s:ByteArray} (h:s.size≤maxLen):keyOf Tryz.prog 9 (.string s)=some (.string s.data.toList):=WideMaps.keyOf_string_mk Tryz.underlying9 h
def AskAt (w:World) (B:Nat) (A:List ByteArray):Prop :=
 ∃ D:DataW Unit,w.ownsMap Tryz.prog 9 (plainElem Tryz.prog 3) B A.length D∧IsMap D∧∀ s:ByteArray,s.size≤maxLen→D.atKey (.string s.data.toList) (.lit (.int .i64 0))=.lit (.int .i64 (cntA A s))
theorem AskAt.made (w:World):AskAt (w.alloc (.map #[] 0)) w.heap.size [] :=
 ⟨.map [],World.ownsMap_made _ _ _ _,⟨[],rfl⟩,fun _s _=>rfl⟩
theorem AskAt.later {w w':World} {B:Nat} {A:List ByteArray} (h:AskAt w B A) {r:Option Nat} (hg:w.grownBy w' r) (hr:some B≠r):AskAt w' B A:=by
 obtain ⟨D,h1,h2⟩:=h
 exact ⟨D,h1.kept hg hr,h2⟩
theorem AskAt.keep {w w':World} {B:Nat} {A:List ByteArray} (h:AskAt w B A) (hb:Below w.heap.size w w'):AskAt w' B A :=
 h.later (r:=none) ⟨hb.os,hb.tape,hb.output,hb.size,fun k hk _=>hb.block k hk⟩ (by simp)
theorem AskAt.lt {w:World} {B:Nat} {A:List ByteArray} (h:AskAt w B A):B<w.heap.size:=by
 obtain ⟨D,h1,-⟩:=h
 exact h1.lt
structure POk (Q w0 w:World) (o B:Nat) (V:JV) (x:VC) (A:List ByteArray):Prop where
 bel:Below w0.heap.size w0 w
 sub:∀ p u,Q.cell? p=some u→(pureW w0).cell? p=some u
 val:ValAt Q V x.val
 five:V.k=5
 len:V.names.length=V.items.length
 asc:ascB V.names=true
 wt:wt V≤1000000000
 lo:w0.heap.size≤o
 lb:w0.heap.size≤B
 ne:o≠B
 blk:BlkAt w o 106 #[.int .u8 x.k,.int .i64 x.n,.string x.t,.slice x.a x.l x.c,.slice x.b x.m x.e,.map (some B),.int .i64 0]
 ask:AskAt w B A
structure PBad (w0 w:World) (o:Nat) (e:Int):Prop where
 bel:Below w0.heap.size w0 w
 lo:w0.heap.size≤o
 ne:e≠0
 blk:∃ c0 c1 c2 c3 c4 c5,BlkAt w o 106 #[c0,c1,c2,c3,c4,c5,.int .i64 e]
def PSt (Q w0 w:World) (o B:Nat) (V:JV) (x:VC):PS→Prop
 | .bad e=>PBad w0 w o e
 | .ok A=>POk Q w0 w o B V x A
theorem PSt.bel {Q w0 w:World} {o B:Nat} {V:JV} {x:VC} {s:PS} (h:PSt Q w0 w o B V x s):Below w0.heap.size w0 w:=by
 cases s with
 | bad e=>exact PBad.bel h
 | ok A=>exact POk.bel h
theorem PSt.olt {Q w0 w:World} {o B:Nat} {V:JV} {x:VC} {s:PS} (h:PSt Q w0 w o B V x s):w0.heap.size≤o∧o<w.heap.size:=by
 cases s with
 | bad e =>
   obtain ⟨_,_,_,_,_,_,hc⟩:=PBad.blk h
   exact ⟨PBad.lo h,BlkAt.lt hc⟩
 | ok A=>exact ⟨POk.lo h,BlkAt.lt (POk.blk h)⟩
theorem PBad.later {w0 w w':World} {o:Nat} {e:Int} (h:PBad w0 w o e) (hb:Below w0.heap.size w0 w') (hk:w'.heap[o]?=w.heap[o]?):PBad w0 w' o e:=by
 obtain ⟨c0,c1,c2,c3,c4,c5,hc⟩:=h.blk
 exact ⟨hb,h.lo,h.ne,c0,c1,c2,c3,c4,c5,hk.trans hc⟩
theorem ask_same {w w':World} {B:Nat} {A:List ByteArray} (h:AskAt w B A) (hk:w'.heap[B]?=w.heap[B]?):AskAt w' B A:=by
 obtain ⟨D,⟨es,clock,h1,h2⟩,h3⟩:=h
 exact ⟨D,⟨es,clock,hk.trans h1,h2⟩,h3⟩
theorem PSt.later {Q w0 w w':World} {o B:Nat} {V:JV} {x:VC} {s:PS} (h:PSt Q w0 w o B V x s) (hb:Below w0.heap.size w0 w') (hk:w'.heap[o]?=w.heap[o]?) (hm:w'.heap[B]?=w.heap[B]?):PSt Q w0 w' o B V x s:=by
 cases s with
 | bad e=>exact PBad.later h hb hk
 | ok A =>
   have h':POk Q w0 w o B V x A:=h
   exact ⟨hb,h'.sub,h'.val,h'.five,h'.len,h'.asc,h'.wt,h'.lo,h'.lb,h'.ne,hk.trans h'.blk,ask_same h'.ask hm⟩
theorem PSt.keep {Q w0 w w':World} {o B:Nat} {V:JV} {x:VC} {s:PS} (h:PSt Q w0 w o B V x s) (hb:Below w.heap.size w w'):PSt Q w0 w' o B V x s:=by
 cases s with
 | bad e=>exact PBad.later h (below_more (PBad.bel h) hb) (hb.block _ (PSt.olt (x:=x) (V:=V) (B:=B) (Q:=Q) (s:=.bad e) h).2)
 | ok A =>
   have h':POk Q w0 w o B V x A:=h
   exact PSt.later (s:=.ok A) h (below_more h'.bel hb) (hb.block _ (BlkAt.lt h'.blk)) (hb.block _ h'.ask.lt)
theorem PSt.set {Q w0 w:World} {o B:Nat} {V:JV} {x:VC} {s:PS} (h:PSt Q w0 w o B V x s) {b:Nat} (h1:w0.heap.size≤b) (h2:b≠o) (h3:b≠B) (i:Nat) (v:Value):PSt Q w0 (w.setCell ⟨b,i,none⟩ v) o B V x s :=
 h.later (bel_set h.bel (p:=⟨b,i,none⟩) h1 v) (Below.heap_setCell _ _ _ _ (fun e=>h2 e.symm)) (Below.heap_setCell _ _ _ _ (fun e=>h3 e.symm))
def errOf:PS→Int
 | .bad e=>e
 | .ok _=>0
theorem pErr_any {Q w0 w:World} {o B:Nat} {V:JV} {x:VC} {s:PS} (h:PSt Q w0 w o B V x s) :
 Calls Tryz.prog 69 #[.pointer (some ⟨o,0,none⟩)] w fun e w'=>e=.returned (.int .i64 (errOf s))∧w=w':=by
 cases s with
 | bad er =>
   obtain ⟨c0,c1,c2,c3,c4,c5,hc⟩:=PBad.blk h
   obtain ⟨k0,k1,k2,k3,k4,k5,k6,kf⟩:=b7 hc
   have heb:(er == 0)=false:=beq_eq_false_iff_ne.2 (PBad.ne h)
   clear h hc
   go_enter Tryz.func69,Tryz.ntmps69
   go_wp2_with fail
   go_ret
   exact ⟨rfl,rfl⟩
 | ok A =>
   have h':POk Q w0 w o B V x A:=h
   obtain ⟨k0,k1,k2,k3,k4,k5,k6,kf⟩:=b7 h'.blk
   have hk:x.k=5:=by
    obtain ⟨_,_,e1,-⟩:=valAt_iff.1 h'.val
    simp only [VC.val,Value.agg.injEq,Array.mk.injEq,List.cons.injEq,Value.int.injEq,true_and] at e1
    rw [e1.1,h'.five]
   rw [hk] at k0
   clear h h' hk
   go_enter Tryz.func69,Tryz.ntmps69
   go_wp2_with fail
   go_ret
   exact ⟨rfl,rfl⟩
theorem pFail_any {Q w0 w:World} {o B:Nat} {V:JV} {x:VC} {s:PS} (h:PSt Q w0 w o B V x s) (e:Int) :
 Calls Tryz.prog 40 #[.pointer (some ⟨o,0,none⟩),.int .i64 e] w fun e' w'=>e'=.returned (.tuple #[])∧PSt Q w0 w' o B V x (failQ e s)∧Sep w w' o (some B):=by
 have HE:=Lib.hid (pErr_any h)
 have HH:=Lib.hid h
 have H0:=Lib.hid h.bel
 cases s with
 | bad er =>
   have heb:(er == 0)=false:=beq_eq_false_iff_ne.2 (PBad.ne h)
   clear h
   go_enter Tryz.func40,Tryz.ntmps40
   simp only [errOf] at HE
   go_wp2_with fail
   refine HE.out.mono ?_
   rintro e' w' ⟨rfl,rfl⟩
   go_wp2_with fail
   refine bodyPost_end (v:=.tuple #[]) (by simp [results,Tryz.results40,go_sem]) rfl ?_
   exact ⟨rfl,HH.out,Sep.of_below (Below.refl _ _) _ _⟩
 | ok A =>
   have HO:Hid (POk Q w0 w o B V x A):=HH.out
   obtain ⟨k0,k1,k2,k3,k4,k5,k6,kf⟩:=b7 HO.out.blk
   clear h
   go_enter Tryz.func40,Tryz.ntmps40
   simp only [errOf] at HE
   go_wp2_with fail
   refine HE.out.mono ?_
   rintro e' w' ⟨rfl,rfl⟩
   go_wp2_with fail
   refine bodyPost_end (v:=.tuple #[]) (by simp [results,Tryz.results40,go_sem]) rfl ?_
   have hs:Sep w (w.setCell ⟨o,6,none⟩ (.int .i64 e)) o (some B):=(Sep.of_below (Below.refl _ _) _ _).set 6 _
   have hb:=hs.below H0.out HO.out.lo (fun k hk=>by cases hk;exact HO.out.lb)
   refine ⟨rfl,?_,hs⟩
   by_cases he:e=0
   ·rw [failQ,if_pos he]
    subst he
    exact ⟨hb,HO.out.sub,HO.out.val,HO.out.five,HO.out.len,HO.out.asc,HO.out.wt,HO.out.lo,HO.out.lb,HO.out.ne,BlkAt.set HO.out.blk 6 _,ask_same HO.out.ask (Below.heap_setCell _ _ _ _ (fun e=>HO.out.ne e.symm))⟩
   ·rw [failQ,if_neg he]
    exact ⟨hb,HO.out.lo,he,_,_,_,_,_,_,BlkAt.set HO.out.blk 6 _⟩
theorem pDone_any {Q w0 w:World} {o B:Nat} {V:JV} {x:VC} {s:PS} (h:PSt Q w0 w o B V x s) (hA:∀ A,s=.ok A→A.length≤1000) :
 Calls Tryz.prog 43 #[.pointer (some ⟨o,0,none⟩)] w fun e' w'=>e'=.returned (.int .i64 (doneQ V s))∧Below w.heap.size w w':=by
 have HE:=Lib.hid (pErr_any h)
 cases s with
 | bad er =>
   have heb:(er != 0)=true:=by rw [bne_iff_ne];exact PBad.ne h
   clear h
   go_enter Tryz.func43,Tryz.ntmps43
   simp only [errOf] at HE
   go_wp2_with fail
   refine HE.out.mono ?_
   rintro e' w' ⟨rfl,rfl⟩
   go_wp2_with fail
   go_ret
   exact ⟨rfl,Below.refl _ _⟩
 | ok A =>
   have h':POk Q w0 w o B V x A:=h
   obtain ⟨xk,xn,xt,xa0,xl,xc,xb,xm,xe⟩:=x
   obtain ⟨k0,k1,k2,k3,k4,k5,k6,kf⟩:=b7 h'.blk
   obtain ⟨vn,vi,hxe,-,-,-,-,-,hns,-⟩:=valAt_iff.1 h'.val
   simp only [VC.val,Value.agg.injEq,Array.mk.injEq,List.cons.injEq] at hxe
   rw [← hxe.2.2.2.1] at hns
   obtain ⟨xa,xcap,hxs,hxl,hxm,hnc⟩:=hns.parts
   simp only [Value.slice.injEq] at hxs
   obtain ⟨e1,e2,e3⟩:=hxs
   rw [e2] at k3
   have HNC:Hid (∀ i s,V.names[i]?=some s→∃ b o,xa0=some ⟨b,o,none⟩∧w.cell? ⟨b,o+i,none⟩=some (.string s)):=fun i s hs=>by
    obtain ⟨b,o,e4,hc⟩:=hnc i s hs
    exact ⟨b,o,by rw [e1,e4],cell_keep h'.bel (pure_cell (h'.sub _ _ hc)).2⟩
   have HM:=Lib.hid hxm
   obtain ⟨D,hown,-,hat⟩:=h'.ask
   obtain ⟨nl,hnl⟩:∃ n,V.names.length=n:=⟨_,rfl⟩
   obtain ⟨al,hal⟩:∃ n,A.length=n:=⟨_,rfl⟩
   rw [hnl] at k3 hxl
   rw [hal] at hown
   have HAT:=Lib.hid hat
   have HOWN:=Lib.hid hown
   have HNL:=Lib.hid hnl
   obtain ⟨res,hres⟩:∃ r,doneQ V (.ok A)=r:=⟨_,rfl⟩
   rw [hres]
   have HRES:=Lib.hid hres
   clear h h' hns hnc e1 e2 e3 hnl hal hres hxe hat hown hxm hA
   go_enter Tryz.func43,Tryz.ntmps43
   simp only [errOf] at HE
   go_wp2_with fail
   refine HE.out.mono ?_
   rintro e' w' ⟨rfl,rfl⟩
   go_wp2_with fail
   go_loop [17] (fun i=>∃ k:Nat,k≤nl∧i=.int .i64 k∧Hid (∀ j s,j<k→V.names[j]?=some s→(A.any fun a=>a.data.toList == s.data.toList)=true)) (fun i=>nl - (intOf i).toNat)
   case atStart=>exact ⟨0,by omega,rfl,fun j s hj=>by omega⟩
   case round =>
    obtain ⟨i,hi,rfl,HF⟩:=hrel
    by_cases hlt:i<nl
    ·obtain ⟨s,hs⟩:∃ s,V.names[i]?=some s:=⟨_,List.getElem?_eq_getElem (by rw [HNL.out];exact hlt)⟩
     obtain ⟨nb,no,rfl,cn⟩:=HNC.out i s hs
     have i0:(0:Int)≤(i:Int):=by omega
     have i1:(i:Int)<(nl:Int):=by omega
     have HS:=Lib.hid hs
     have hsz:s.size≤maxLen:=HM.out s (List.mem_of_getElem? hs)
     have hca:=HAT.out s hsz
     have HCA:=Lib.hid hca
     have HSZ:=Lib.hid hsz
     clear hs hca hsz
     go_wp2_with (first
      | (at_lookup;refine wpList_lookup_own_int _ rfl _ _ 104 rfl 9 3 .i64 askLaw Tryz.underlying104 Tryz.underlying3 (zeroInt _) B al D rfl HOWN.out _ _ rfl (askKey HSZ.out) ?_;intro c hat hwc)
      | fail)
     ·rename_i hcz _
      have hcc:c=(cntA A s:Int):=by
       have:=HCA.out
       rw [hat] at this
       injection this with h1
       injection h1
      have hc0:cntA A s=0:=by
       have:=beq_iff_eq.1 hcz
       omega
      have hr:(11:Int)=res:=by
       have:=HRES.out
       rw [doneQ,askedAll_at HS.out ((cntA_zero A s).1 hc0)] at this
       exact this
      subst hr
      go_ret
      exact ⟨rfl,Below.refl _ _⟩
     ·rename_i hcz
      have hcc:c=(cntA A s:Int):=by
       have:=HCA.out
       rw [hat] at this
       injection this with h1
       injection h1
      have hc0:¬ cntA A s=0:=fun e=>by
       rw [hcc,e] at hcz
       cases hcz
      have han:(A.any fun a=>a.data.toList == s.data.toList)=true:=by
       cases h:A.any fun a=>a.data.toList == s.data.toList with
       | true=>rfl
       | false=>exact absurd ((cntA_zero A s).2 h) hc0
      refine ⟨⟨i+1,by omega,by go_num,?_⟩,by simp [intOf];omega⟩
      exact fun k t hk ht=>by
       by_cases hki:k=i
       ·subst hki
        rw [HS.out] at ht
        cases ht
        exact han
       ·exact HF.out k t (by omega) ht
    ·have i1:¬ (i:Int)<(nl:Int):=by omega
     have hall:allAsked V A=true:=by
      unfold allAsked
      rw [List.all_eq_true]
      intro s hs
      obtain ⟨j,hj⟩:=List.getElem?_of_mem hs
      have hjl:=(List.getElem?_eq_some_iff.1 hj).1
      rw [HNL.out] at hjl
      exact HF.out j s (by omega) hj
     have hr:(0:Int)=res:=by
      have:=HRES.out
      rw [doneQ,hall] at this
      exact this
     subst hr
     clear hall HF
     go_wp2_with fail
     go_ret
     exact ⟨rfl,Below.refl _ _⟩
end Go.Proofs.YtchinankclckjaaGreatDoor
