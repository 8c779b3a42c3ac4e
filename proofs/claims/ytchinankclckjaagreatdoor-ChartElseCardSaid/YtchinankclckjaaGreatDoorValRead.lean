/-
 A value that can be read as data is a plain value laid in memory.
-/
import Derived.Test.YtchinankclckjaaGreatDoorValA
import Derived.Deep.Slices
import Derived.Deep.Fields
import Derived.SliceStrings
import Derived.Lib.SmallJoins
namespace Go.Proofs.YtchinankclckjaaGreatDoor
set_option maxRecDepth 100000
open Go.RowKit Go.ChangeShapes Go.WideShapes Go.Deep
theorem add_none (b o n:Nat):(Addr.mk b o none).add n=⟨b,o+n,none⟩:=by
 unfold Addr.add
 by_cases h:n=0
 ·subst h;rfl
 ·rw [if_neg h]
theorem rowAt_of {w:World} {b:Nat}:∀ {items:List JV} {o:Nat},(∀ i x,items[i]?=some x→∃ c0 c1 c2 c3 c4,w.cell? ⟨b,o+i*5,none⟩=some c0∧w.cell? ⟨b,o+i*5+1,none⟩=some c1∧w.cell? ⟨b,o+i*5+2,none⟩=some c2∧w.cell? ⟨b,o+i*5+3,none⟩=some c3∧w.cell? ⟨b,o+i*5+4,none⟩=some c4∧ValAt w x (.agg #[c0,c1,c2,c3,c4]))→RowAt w b o items
 | [],_,_=>by rw [RowAt];trivial
 | x :: r,o,h=>by
   rw [RowAt]
   refine ⟨by simpa using h 0 x rfl,rowAt_of fun i y hy=>?_⟩
   have:=h (i+1) y (by simpa using hy)
   rw [show o+(i+1)*5=o+5+i*5 by omega] at this
   exact this
section
variable {H:Type} {enc:TypeId × Value→H} {w:World} {base:Nat} {spare:Nat→Bool} {held:Bool}
theorem strsAt_trod {fuel:Nat} {c:Value} {x:DataW H × List MemPlace} (h:DataW.trod enc Tryz.prog w base spare held fuel 26 [c]=some x):∃ l,StrsAt w c l:=by
 rcases open_strings Tryz.underlying26 Tryz.underlying9 (by kernel_rfl) h with ⟨hc,-⟩ | ⟨a,len,cap,ss,hc,-,hl,hm,hss,-,hcell,hsz⟩
 ·simp only [List.cons.injEq,and_true] at hc
  exact ⟨[],by subst hc;exact ⟨by simp,by simp,Or.inl ⟨rfl,_,_,rfl⟩⟩⟩
 ·simp only [List.cons.injEq,and_true] at hc
  subst hc
  have hle:len≤ss.length:=by rw [hss];split <;> omega
  unfold maxLen at hm
  by_cases h0:len=0
  ·subst h0
   exact ⟨[],by simp,by simp,Or.inl ⟨rfl,_,_,rfl⟩⟩
  ·obtain ⟨b,o,spot⟩:=a
   have h00:=hcell 0 (by omega)
   have hspot:spot=none:=by simpa [Addr.add] using World.cell?_spot h00
   subst hspot
   refine ⟨ss.take len,fun s hs=>hsz s (List.mem_of_mem_take hs),by simp;omega,Or.inr ⟨b,o,cap,?_,fun i s hi=>?_⟩⟩
   ·rw [List.length_take,Nat.min_eq_left hle]
   ·obtain ⟨hi2,hv⟩:=List.getElem?_eq_some_iff.1 hi
    simp only [List.length_take] at hi2
    have:=hcell i (by omega)
    rw [add_none] at this
    rw [this]
    rw [List.getElem_take] at hv
    rw [← hv,List.getD_eq_getElem?_getD,List.getElem?_eq_getElem (by omega)]
    rfl
theorem valAt_trod:∀ (fuel:Nat) (cs:List Value) (x:DataW H × List MemPlace),DataW.trod enc Tryz.prog w base spare held fuel 29 cs=some x→∃ V,ValAt w V (.agg cs.toArray):=by
 intro fuel
 induction fuel using Nat.strongRecOn with
 | _ fuel ih =>
   intro cs x h
   obtain ⟨xs,n,hn,hx,hcl,hxl,hf⟩:=DataW.trod_struct Tryz.underlying29 h
   have hC:Tryz.prog.cellsOf 29=5:=by kernel_rfl
   rw [hC] at hcl
   match cs,hcl with
   | [c0,c1,c2,c3,c4],_ =>
     have at_:∀ (i:Nat) (hi:i<5),∃ y,xs[i]?=some y:=fun i hi=>⟨_,List.getElem?_eq_getElem (by rw [hxl];exact hi)⟩
     obtain ⟨y0,e0⟩:=at_ 0 (by omega)
     obtain ⟨y1,e1⟩:=at_ 1 (by omega)
     obtain ⟨y2,e2⟩:=at_ 2 (by omega)
     obtain ⟨y3,e3⟩:=at_ 3 (by omega)
     obtain ⟨y4,e4⟩:=at_ 4 (by omega)
     have f0:DataW.trod enc Tryz.prog w base spare held n 5 (([c0,c1,c2,c3,c4].drop 0).take (Tryz.prog.cellsOf 5))=some y0:=(hf 0 _ rfl).trans e0
     have f1:DataW.trod enc Tryz.prog w base spare held n 2 (([c0,c1,c2,c3,c4].drop 1).take (Tryz.prog.cellsOf 2))=some y1:=(hf 1 _ rfl).trans e1
     have f2:DataW.trod enc Tryz.prog w base spare held n 9 (([c0,c1,c2,c3,c4].drop 2).take (Tryz.prog.cellsOf 9))=some y2:=(hf 2 _ rfl).trans e2
     have f3:DataW.trod enc Tryz.prog w base spare held n 26 (([c0,c1,c2,c3,c4].drop 3).take (Tryz.prog.cellsOf 26))=some y3:=(hf 3 _ rfl).trans e3
     have f4:DataW.trod enc Tryz.prog w base spare held n 27 (([c0,c1,c2,c3,c4].drop 4).take (Tryz.prog.cellsOf 27))=some y4:=(hf 4 _ rfl).trans e4
     have u0:Tryz.prog.cellsOf 5=1:=by kernel_rfl
     have u1:Tryz.prog.cellsOf 2=1:=by kernel_rfl
     have u2:Tryz.prog.cellsOf 9=1:=by kernel_rfl
     have u3:Tryz.prog.cellsOf 26=1:=by kernel_rfl
     have u4:Tryz.prog.cellsOf 27=1:=by kernel_rfl
     simp only [u0,u1,u2,u3,u4,List.drop_zero,List.drop_succ_cons,List.take_succ_cons,List.take_zero] at f0 f1 f2 f3 f4
     obtain ⟨k,hk,-,wk⟩:=DataW.trod_int Tryz.underlying5 f0
     obtain ⟨m,hm,-,wm⟩:=DataW.trod_int Tryz.underlying2 f1
     obtain ⟨t,ht,-,wt⟩:=DataW.trod_string Tryz.underlying9 f2
     obtain ⟨names,hnames⟩:=strsAt_trod f3
     simp only [List.cons.injEq,and_true] at hk hm ht
     subst hk hm ht
     have wk':0≤k∧k≤255:=by simp [Lit.wf,IntKind.min,IntKind.max,IntKind.bits,IntKind.signed] at wk;omega
     have wm':-9223372036854775808≤m∧m≤9223372036854775807:=by simp [Lit.wf,IntKind.min,IntKind.max,IntKind.bits,IntKind.signed] at wm;omega
     have hit:∃ items,ItemsAt w c4 items:=by
      rcases DataW.trod_slice Tryz.underlying27 f4 with ⟨hc,-⟩ | ⟨a,len,cap,elems,rest,n',hn',hc,-,-,hl,hmx,hlen,hel,-,-⟩
      ·simp only [List.cons.injEq,and_true] at hc
       exact ⟨[],by subst hc;exact ⟨by simp,Or.inl ⟨rfl,_,_,rfl⟩⟩⟩
      ·simp only [List.cons.injEq,and_true] at hc
       subst hc
       unfold maxLen at hmx
       by_cases h0:len=0
       ·subst h0
        exact ⟨[],by simp,Or.inl ⟨rfl,_,_,rfl⟩⟩
       ·rw [hC] at hel
        have each:∀ i,i<len→∃ (V:JV) (cs':List Value),w.cells? base (a.add (i*5)) 5=some cs'∧ValAt w V (.agg cs'.toArray):=by
         intro i hi
         have h1:=hel i hi
         rw [List.getElem?_eq_getElem (by omega)] at h1
         obtain ⟨cs',hcs,htr⟩:=Option.bind_eq_some_iff.1 h1
         obtain ⟨V,hV⟩:=ih n' (by omega) cs' _ htr
         exact ⟨V,cs',hcs,hV⟩
        obtain ⟨b,o,spot⟩:=a
        have hspot:spot=none:=by
         obtain ⟨V,cs',hcs,-⟩:=each 0 (by omega)
         obtain ⟨-,hcl',hat⟩:=World.cells?_some hcs
         have:=hat 0 (by omega)
         rw [List.getElem?_eq_getElem (by omega)] at this
         simpa [Addr.add] using World.cell?_spot this
        subst hspot
        let pick:Nat→JV:=fun i=>if hi:i<len then Classical.choose (each i hi) else .mk 0 0 ⟨#[]⟩ [] []
        refine ⟨(List.range len).map pick,by simp;omega,Or.inr ⟨b,o,cap,by simp,rowAt_of fun i x hx=>?_,by simp;omega⟩⟩
        have hi:i<len:=by
         obtain ⟨hi,-⟩:=List.getElem?_eq_some_iff.1 hx
         simpa using hi
        have hxe:x=Classical.choose (each i hi):=by
         rw [List.getElem?_map,List.getElem?_range hi] at hx
         simp only [Option.map_some,Option.some.injEq] at hx
         rw [← hx]
         show (if hi:i<len then _ else _)=_
         rw [dif_pos hi]
        obtain ⟨cs',hcs,hV⟩:=Classical.choose_spec (each i hi)
        rw [← hxe] at hV
        obtain ⟨-,hcl',hat⟩:=World.cells?_some hcs
        match cs',hcl' with
        | [d0,d1,d2,d3,d4],_ =>
          have g0:=hat 0 (by omega)
          have g1:=hat 1 (by omega)
          have g2:=hat 2 (by omega)
          have g3:=hat 3 (by omega)
          have g4:=hat 4 (by omega)
          rw [add_none,add_none] at g0 g1 g2 g3 g4
          exact ⟨d0,d1,d2,d3,d4,g0,g1,g2,g3,g4,hV⟩
     obtain ⟨items,hitems⟩:=hit
     exact ⟨.mk k m t names items,valAt_iff.2 ⟨c3,c4,rfl,wk'.1,wk'.2,wm'.1,wm'.2,wt,hnames,hitems⟩⟩
end
end Go.Proofs.YtchinankclckjaaGreatDoor
