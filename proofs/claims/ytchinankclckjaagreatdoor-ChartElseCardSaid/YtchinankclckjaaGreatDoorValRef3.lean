/-
  legateref08: which values may be, as the document tells it.
  legateref08: Depth, part, May.
  legateref08: part of lists and objects; May.
-/
import Derived.Test.YtchinankclckjaaGreatDoorUtfA
import Derived.Test.YtchinankclckjaaGreatDoorSignP
namespace Go.Proofs.YtchinankclckjaaGreatDoor
set_option maxHeartbeats 4000000
section
set_option maxRecDepth 100000
open Go.RowKit
theorem refWrit_any (s:ByteArray) (w:World) (hs:s.size≤281474976710656) (r:Bool) (hr:Hid (writ s=r)) :
 Calls Tryz.prog 76 #[.string s] w fun e w'=>e=.returned (.bool r)∧Below w.heap.size w w':=by
 obtain ⟨u,hu⟩:∃ u,utfOK s=u:=⟨_,rfl⟩
 have hL:=refLen_any s w hs
 unfold RefLenPost at hL
 rw [hu] at hL
 have hrr:r=(decide (s.size≤4096) && u):=by rw [← hr.out,writ,hu]
 have HRR:=Lib.hid hrr
 clear hrr hu hr
 cases u with
 | true =>
   go_enter Tryz.func76,Tryz.ntmps76
   go_wp2_with fail
   refine hL.mono ?_
   rintro e w2 ⟨n,rfl,hb⟩
   go_wp2_with fail
   go_ret
   refine ⟨ret_bool ?_,hb⟩
   rw [HRR.out,Bool.and_true]
   rw [Bool.eq_iff_iff,decide_eq_true_eq,decide_eq_true_eq]
   omega
 | false =>
   go_enter Tryz.func76,Tryz.ntmps76
   go_wp2_with fail
   refine hL.mono ?_
   rintro e w2 ⟨n,rfl,hb⟩
   go_wp2_with fail
   go_ret
   exact ⟨ret_bool (by rw [HRR.out,Bool.and_false]),hb⟩
theorem less_tri:∀ (x y:List UInt8),(Op.bytesLess x y=true∧Op.bytesLess y x=false∧y≠x)∨(Op.bytesLess x y=false∧(Op.bytesLess y x=true∨y=x))
 | [],[]=>Or.inr ⟨rfl,Or.inr rfl⟩
 | [],b :: y=>Or.inl ⟨rfl,rfl,by simp⟩
 | a :: x,[]=>Or.inr ⟨rfl,Or.inl rfl⟩
 | a :: x,b :: y=>by
   simp only [Op.bytesLess]
   by_cases h1:a<b
   ·have h2:¬ b<a:=by rw [UInt8.lt_iff_toNat_lt] at h1 ⊢;omega
    have h3:¬ b=a:=by rintro rfl;exact h2 h1
    exact Or.inl ⟨by simp [h1],by simp [h2,h3],by simp [h3]⟩
   ·by_cases h2:b<a
    ·have h3:¬ a=b:=by rintro rfl;exact h1 h2
     exact Or.inr ⟨by simp [h1,h3],Or.inl (by simp [h2])⟩
    ·have h3:a=b:=by
      apply UInt8.toNat_inj.1
      rw [UInt8.lt_iff_toNat_lt] at h1 h2
      omega
     subst h3
     rcases less_tri x y with ⟨g1,g2,g3⟩ | ⟨g1,g2⟩
     ·exact Or.inl ⟨by simp [g1],by simp [g2,h1],by simp [g3]⟩
     ·refine Or.inr ⟨by simp [g1,h1],?_⟩
      rcases g2 with g2 | g2
      ·exact Or.inl (by simp [g2])
      ·exact Or.inr (by rw [g2])
theorem refRise_any (l:List ByteArray) (v:Value) (w:World) (h:StrsAt w v l) :
 Calls Tryz.prog 77 #[v] w fun e w'=>e=.returned (.bool (ascB l))∧Below w.heap.size w w':=by
 obtain ⟨a,cap,rfl,hl,hm,hc⟩:=h.parts
 have HC:=Lib.hid hc
 clear hc h hm
 obtain ⟨len,hlen⟩:∃ n,l.length=n:=⟨_,rfl⟩
 rw [hlen] at hl ⊢
 have HL:=Lib.hid hlen
 clear hlen
 go_enter Tryz.func77,Tryz.ntmps77
 go_wp2_with fail
 go_loopw [3] (fun i wr=>∃ k:Nat,1≤k∧(k≤len∨k=1)∧i=.int .i64 k∧Hid (ascTo l k=true)∧∃ nq,wr=w.drewN nq) (fun i _=>len - (intOf i).toNat)
 case atStart=>exact ⟨1,by omega,Or.inr rfl,rfl,rfl,0,rfl⟩
 case round =>
  obtain ⟨k,hk1,hk,rfl,HA,nq,rfl⟩:=hrel
  obtain ⟨j,rfl⟩:∃ j,k=j+1:=⟨k - 1,by omega⟩
  by_cases hlt:j+1<len
  ·obtain ⟨s,hs⟩:∃ s,l[j+1]?=some s:=⟨_,List.getElem?_eq_getElem (by rw [HL.out];exact hlt)⟩
   obtain ⟨p,hp⟩:∃ s,l[j]?=some s:=⟨_,List.getElem?_eq_getElem (by rw [HL.out];omega)⟩
   obtain ⟨b,o,rfl,hcs⟩:=HC.out (j+1) s hs
   obtain ⟨b',o',hbo,hcp⟩:=HC.out j p hp
   simp only [Option.some.injEq,Addr.mk.injEq,and_true] at hbo
   obtain ⟨rfl,rfl⟩:=hbo
   have hless:lessAt l j=Op.bytesLess p.toList s.toList:=by simp [lessAt,List.getD,hs,hp]
   have hto:ascTo l (j+1+1)=(ascTo l (j+1) && lessAt l j):=by
    simp only [ascTo,Nat.add_sub_cancel,List.range_succ,List.all_append,List.all_cons,List.all_nil,Bool.and_true]
   have HLs:=Lib.hid hless
   have HTo:=Lib.hid hto
   clear hs hp hless hto
   have hw1:IntKind.i64.wrap ((j:Int)+1 - 1)=(j:Int):=by rw [IntWalk.i64_in ((j:Int)+1 - 1) (by omega)];omega
   have hj0:(0:Int)≤(j:Int):=by omega
   have hj1:(j:Int)<(len:Int):=by omega
   have hj2:(j:Int)+1<(len:Int):=by omega
   have hj3:((j:Int)+1).toNat=j+1:=by omega
   by_cases hb:Op.bytesLess p.toList s.toList=true
   ·have hb1:Op.bytesLess s.toList p.toList=false∧(s.toList == p.toList)=false:=by
     rcases less_tri p.toList s.toList with ⟨_,g2,g3⟩ | ⟨g1,_⟩
     ·exact ⟨g2,beq_eq_false_iff_ne.2 g3⟩
     ·rw [g1] at hb;cases hb
    obtain ⟨hb2,hb3⟩:=hb1
    go_wp2_with fail
    go_quiet (fail)
    go_wp2_with fail
    refine ⟨⟨j+1+1,by omega,by omega,by go_num,?_,_,rfl⟩,?_⟩
    ·show ascTo l (j+1+1)=true
     rw [HTo.out,HA.out,HLs.out];simpa using hb
    ·simp [intOf];omega
   ·have hbf:Op.bytesLess p.toList s.toList=false:=by simpa using hb
    have hno:ascB l=false:=by
     rw [ascB,List.all_eq_false]
     refine ⟨j,List.mem_range.2 (by rw [HL.out];omega),?_⟩
     rw [HLs.out,hbf];simp
    have HNO:=Lib.hid hno
    have hb1:Op.bytesLess s.toList p.toList=true∨(s.toList == p.toList)=true:=by
     rcases less_tri p.toList s.toList with ⟨g1,_⟩ | ⟨_,g2⟩
     ·rw [g1] at hbf;cases hbf
     ·rcases g2 with g2 | g2
      ·exact Or.inl g2
      ·exact Or.inr (by rw [g2];exact beq_self_eq_true _)
    clear hno hb
    rcases hb1 with hb1 | hb1
    all_goals
     go_wp2_with fail
     go_quiet (fail)
     go_wp2_with fail
     go_ret
     exact ⟨ret_bool HNO.out.symm,bel_drewN (bel_drewN (Below.refl _ _) _) _⟩
  ·have hyes:ascB l=true:=by
    have:=HA.out
    rw [ascB,HL.out]
    rw [ascTo] at this
    have e:len - 1=j+1 - 1:=by omega
    rw [e];exact this
   have HY:=Lib.hid hyes
   clear hyes
   go_wp2_with fail
   go_ret
   exact ⟨ret_bool HY.out.symm,bel_drewN (Below.refl _ _) _⟩
theorem countL_take {items:List JV} {j:Nat} {x:JV} (h:items[j]?=some x):countL (items.take (j+1))=countL (items.take j)+countV x:=by
 have app:∀ a b:List JV,countL (a++b)=countL a+countL b:=by
  intro a b
  induction a with
  | nil=>simp [countL]
  | cons y r ih=>simp only [List.cons_append,countL,ih];omega
 rw [List.take_add_one,h,app];simp [countL]
theorem depthL_take {items:List JV} {j:Nat} {x:JV} (h:items[j]?=some x):depthL (items.take (j+1))=max (depthL (items.take j)) (depthV x):=by
 have app:∀ a b:List JV,depthL (a++b)=max (depthL a) (depthL b):=by
  intro a b
  induction a with
  | nil=>simp [depthL]
  | cons y r ih=>simp only [List.cons_append,depthL,ih];omega
 rw [List.take_add_one,h,app];simp [depthL]
theorem countL_takeLe (items:List JV) (j:Nat):countL (items.take j)≤countL items:=by
 have app:∀ a b:List JV,countL (a++b)=countL a+countL b:=by
  intro a b
  induction a with
  | nil=>simp [countL]
  | cons y r ih=>simp only [List.cons_append,countL,ih];omega
 have:=app (items.take j) (items.drop j)
 rw [List.take_append_drop] at this
 omega
mutual
theorem depth_count:∀ (V:JV),depthV V≤countV V
 | .mk k n t names items=>by
   rw [depthV,countV]
   have:=depth_countL items
   split <;> omega
theorem depth_countL:∀ (l:List JV),depthL l≤countL l
 | []=>by rw [depthL,countL];omega
 | x :: r=>by
   rw [depthL,countL]
   have h1:=depth_count x
   have h2:=depth_countL r
   omega
end
theorem refCount_any (N:Nat):∀ (V:JV) (v:Value) (w:World),SizeOf.sizeOf V<N→ValAt w V v→countV V≤1000000000 →
 Calls Tryz.prog 45 #[v] w fun e w'=>e=.returned (.int .i64 (countV V))∧Below w.heap.size w w':=by
 induction N with
 | zero=>intro V v w h;omega
 | succ N ih =>
   intro V v w hN hV hcnt
   have HIH:=Lib.hid ih
   clear ih
   obtain ⟨vn,vi,rfl,k0,k1,n0,n1,ht,hns,his⟩:=valAt_iff.1 hV
   have HIs:=Lib.hid his
   obtain ⟨ai,icap,rfl,hI1,-⟩:=his.parts
   obtain ⟨an,ncap,rfl,-,-,-⟩:=hns.parts
   obtain ⟨il,e2⟩:∃ x,V.items.length=x:=⟨_,rfl⟩
   rw [e2] at hI1 HIs ⊢
   have HE2:=Lib.hid e2
   clear e2 his hns hV
   have hcv:=countV_eq V
   rw [hcv] at hcnt
   have HCV:=Lib.hid hcv
   clear hcv
   obtain ⟨w2,hw2⟩:∃ x,x=w.alloc (.cells #[.int .u8 V.k,.int .i64 V.n,.string V.t,.slice an V.names.length ncap,.slice ai il icap] 29):=⟨_,rfl⟩
   have hB2:Below w.heap.size w w2:=by rw [hw2];exact bel_alloc (Below.refl _ _) _
   have a4:w2.cell? ⟨w.heap.size,4,none⟩=some (.slice ai il icap):=by rw [hw2,cell_al_eq _ _ _ _ _ rfl];rfl
   have HW:=Lib.hid hw2
   clear hw2
   go_enter Tryz.func45,Tryz.ntmps45
   go_wp2_with fail
   rw [← HW.out]
   go_loopw [3,4] (fun n i wr=>∃ (j m:Nat),j≤il∧i=.int .i64 j∧n=.int .i64 m∧m≤1000000000∧Hid (m=1+countL (V.items.take j))∧Below w2.heap.size w2 wr) (fun _ i _=>il - (intOf i).toNat)
   case atStart=>exact ⟨0,1,by omega,rfl,rfl,by omega,by simp [Hid,countL],Below.refl _ _⟩
   case round =>
    obtain ⟨j,m,hj,rfl,rfl,hm,HM,hbr⟩:=hrel
    have c4:=cell_keep hbr a4
    by_cases hjl:j<il
    ·obtain ⟨x,hx⟩:∃ x,V.items[j]?=some x:=⟨_,List.getElem?_eq_getElem (by rw [HE2.out];exact hjl)⟩
     obtain ⟨_,_,e',-,hpart⟩:=(HIs.out.keep (below_more hB2 hbr)).parts
     simp only [Value.slice.injEq] at e'
     obtain ⟨rfl,-,rfl⟩:=e'
     obtain ⟨xb,xo,xn,xi,rfl,x0,x1,x2,x3,x4,q⟩:=hpart j x hx
     have hvx:=valAt_iff.2 ⟨xn,xi,rfl,q⟩
     obtain ⟨-,-,-,-,-,q1,q2⟩:=q
     obtain ⟨xi1,xi2,rfl,-,-⟩:=q2.parts
     obtain ⟨xn1,xn2,rfl,-,-,-⟩:=q1.parts
     have hst:=countL_take hx
     have hle:=countL_takeLe V.items (j+1)
     have hcx:countV x≤1000000000:=by omega
     have hsx:=JV.size_item (List.mem_of_getElem? hx)
     have hcall:=HIH.out x _ wr (by omega) hvx hcx
     have HST:=Lib.hid hst
     have HC:=Lib.hid hcall
     have hmx:m+countV x≤1000000000:=by have:=HM.out;omega
     have hj0':(0:Int)≤(j:Int):=by omega
     have hj1':(j:Int)<(il:Int):=by omega
     clear hst hcall hpart hx q1 q2 hvx hle
     go_wp2_with fail
     refine HC.out.mono ?_
     rintro e w4 ⟨rfl,hb4⟩
     go_wp2_with fail
     refine ⟨⟨j+1,m+countV x,by omega,by go_num,by go_num,by omega,?_,below_more hbr hb4⟩,by simp [intOf];omega⟩
     show m+countV x=_
     have h1:=HM.out
     have h2:=HST.out
     omega
    ·have hall:(m:Int)=countV V:=by
      have:=HM.out
      rw [List.take_of_length_le (by rw [HE2.out];omega)] at this
      have h2:=HCV.out
      omega
     have HALL:=Lib.hid hall
     clear hall
     go_wp2_with fail
     go_ret
     exact ⟨ret_int HALL.out,below_more hB2 hbr⟩
end

section
set_option maxRecDepth 100000
open Go.RowKit
theorem refDepth_any (N:Nat):∀ (V:JV) (v:Value) (w:World),SizeOf.sizeOf V<N→ValAt w V v→countV V≤1000000000 →
 Calls Tryz.prog 46 #[v] w fun e w'=>e=.returned (.int .i64 (depthV V))∧Below w.heap.size w w':=by
 induction N with
 | zero=>intro V v w h;omega
 | succ N ih =>
   intro V v w hN hV hcnt
   have HIH:=Lib.hid ih
   clear ih
   obtain ⟨vn,vi,rfl,k0,k1,n0,n1,ht,hns,his⟩:=valAt_iff.1 hV
   have HIs:=Lib.hid his
   obtain ⟨ai,icap,rfl,hI1,-⟩:=his.parts
   obtain ⟨an,ncap,rfl,-,-,-⟩:=hns.parts
   obtain ⟨il,e2⟩:∃ x,V.items.length=x:=⟨_,rfl⟩
   rw [e2] at hI1 HIs ⊢
   have HE2:=Lib.hid e2
   clear e2 his hns hV
   have hdv:=depthV_eq V
   rw [countV_eq V] at hcnt
   have HDV:=Lib.hid hdv
   clear hdv
   obtain ⟨w2,hw2⟩:∃ x,x=w.alloc (.cells #[.int .u8 V.k,.int .i64 V.n,.string V.t,.slice an V.names.length ncap,.slice ai il icap] 29):=⟨_,rfl⟩
   have hB2:Below w.heap.size w w2:=by rw [hw2];exact bel_alloc (Below.refl _ _) _
   have a4:w2.cell? ⟨w.heap.size,4,none⟩=some (.slice ai il icap):=by rw [hw2,cell_al_eq _ _ _ _ _ rfl];rfl
   have HW:=Lib.hid hw2
   clear hw2
   by_cases hk:V.k=4∨V.k=5
   ·have hd:=HDV.out
    rw [if_pos hk] at hd
    have HD:=Lib.hid hd
    clear hd HDV
    have hbb:((V.k != 4)=false∧decide True=true)∨((V.k != 4)=true∧(V.k != 5)=false):=by
     rcases hk with hk | hk
     ·exact Or.inl ⟨by rw [hk];rfl,rfl⟩
     ·exact Or.inr ⟨by rw [hk];rfl,by rw [hk];rfl⟩
    clear hk
    rcases hbb with ⟨hk4,-⟩ | ⟨hk4,hk5⟩
    all_goals
     go_enter Tryz.func46,Tryz.ntmps46
     go_wp2_with fail
     rw [← HW.out]
     go_loopw [3,4] (fun n i wr=>∃ (j m:Nat),j≤il∧i=.int .i64 j∧n=.int .i64 m∧m≤1000000000∧Hid (m=depthL (V.items.take j))∧Below w2.heap.size w2 wr) (fun _ i _=>il - (intOf i).toNat)
     case atStart=>exact ⟨0,0,by omega,rfl,rfl,by omega,by simp [Hid,depthL],Below.refl _ _⟩
     case round =>
      obtain ⟨j,m,hj,rfl,rfl,hm,HM,hbr⟩:=hrel
      have c4:=cell_keep hbr a4
      by_cases hjl:j<il
      ·obtain ⟨x,hx⟩:∃ x,V.items[j]?=some x:=⟨_,List.getElem?_eq_getElem (by rw [HE2.out];exact hjl)⟩
       obtain ⟨_,_,e',-,hpart⟩:=(HIs.out.keep (below_more hB2 hbr)).parts
       simp only [Value.slice.injEq] at e'
       obtain ⟨rfl,-,rfl⟩:=e'
       obtain ⟨xb,xo,xn,xi,rfl,x0,x1,x2,x3,x4,q⟩:=hpart j x hx
       have hvx:=valAt_iff.2 ⟨xn,xi,rfl,q⟩
       obtain ⟨-,-,-,-,-,q1,q2⟩:=q
       obtain ⟨xi1,xi2,rfl,-,-⟩:=q2.parts
       obtain ⟨xn1,xn2,rfl,-,-,-⟩:=q1.parts
       have hst:=depthL_take hx
       have hle:=countL_mem (List.mem_of_getElem? hx)
       have hdc:=depth_count x
       have hsx:=JV.size_item (List.mem_of_getElem? hx)
       have hcall:=HIH.out x _ wr (by omega) hvx (by omega)
       have HST:=Lib.hid hst
       have HC:=Lib.hid hcall
       have hdx:depthV x≤1000000000:=by omega
       have hj0':(0:Int)≤(j:Int):=by omega
       have hj1':(j:Int)<(il:Int):=by omega
       clear hst hcall hpart hx q1 q2 hvx hle hdc
       go_wp2_with fail
       refine HC.out.mono ?_
       rintro e w4 ⟨rfl,hb4⟩
       go_wp2_with fail
       refine ⟨⟨j+1,max m (depthV x),by omega,by go_num,congrArg (Value.int .i64) (by omega),by omega,?_,below_more hbr hb4⟩,by simp [intOf];omega⟩
       show max m (depthV x)=_
       rw [HST.out,← HM.out]
      ·have hall:(m:Int)+1=depthV V:=by
        have:=HM.out
        rw [List.take_of_length_le (by rw [HE2.out];omega)] at this
        have h2:=HD.out
        omega
       have HALL:=Lib.hid hall
       clear hall
       go_wp2_with fail
       go_ret
       exact ⟨ret_int HALL.out,below_more hB2 hbr⟩
   ·have hd:=HDV.out
    rw [if_neg hk] at hd
    have HD:=Lib.hid hd
    have hk4:(V.k != 4)=true:=by simp;omega
    have hk5:(V.k != 5)=true:=by simp;omega
    clear hd HDV hk
    go_enter Tryz.func46,Tryz.ntmps46
    go_wp2_with fail
    rw [← HW.out]
    go_ret
    exact ⟨ret_int (by rw [HD.out];rfl),hB2⟩
theorem refPart_1 (n:Int) (t:ByteArray) (names:List ByteArray) (items:List JV) (an ai:Option Addr) (ncap icap:Nat) (w:World) (hnl:names.length≤9223372036854775807) (hil:items.length≤9223372036854775807) (r:Bool) (hr:Hid (goodV (.mk 1 n t names items)=r)) :
 Calls Tryz.prog 44 #[.agg #[.int .u8 1,.int .i64 n,.string t,.slice an names.length ncap,.slice ai items.length icap]] w fun e w'=>e=.returned (.bool r)∧Below w.heap.size w w':=by
 go_enter Tryz.func44,Tryz.ntmps44
 go_wp2_with fail
 all_goals
  go_ret
  refine ⟨ret_bool ?_,bel_alloc (Below.refl _ _) _⟩
  rw [← hr.out,goodV_eq]
  simp only [JV.k,properB]
  clear hr
  cases items <;> cases names <;> simp_all <;> omega
theorem refPart_2 (n:Int) (t:ByteArray) (names:List ByteArray) (items:List JV) (an ai:Option Addr) (ncap icap:Nat) (w:World) (hnl:names.length≤9223372036854775807) (hil:items.length≤9223372036854775807) (r:Bool) (hr:Hid (goodV (.mk 2 n t names items)=r)) :
 Calls Tryz.prog 44 #[.agg #[.int .u8 2,.int .i64 n,.string t,.slice an names.length ncap,.slice ai items.length icap]] w fun e w'=>e=.returned (.bool r)∧Below w.heap.size w w':=by
 go_enter Tryz.func44,Tryz.ntmps44
 go_wp2_with fail
 all_goals
  go_ret
  refine ⟨ret_bool ?_,bel_alloc (Below.refl _ _) _⟩
  rw [← hr.out,goodV_eq]
  simp only [JV.k,properB]
  clear hr
  cases items <;> cases names <;> simp_all <;> omega
theorem refPart_0 (k n:Int) (t:ByteArray) (an ai:Option Addr) (nl il ncap icap:Nat) (w:World) (h1:¬ k=1) (h2:¬ k=2) (h3:¬ k=3) (h4:¬ k=4) (h5:¬ k=5) :
 Calls Tryz.prog 44 #[.agg #[.int .u8 k,.int .i64 n,.string t,.slice an nl ncap,.slice ai il icap]] w fun e w'=>e=.returned (.bool false)∧Below w.heap.size w w':=by
 have b1:(k == 1)=false:=beq_eq_false_iff_ne.2 h1
 have b2:(k == 2)=false:=beq_eq_false_iff_ne.2 h2
 have b3:(k == 3)=false:=beq_eq_false_iff_ne.2 h3
 have b4:(k == 4)=false:=beq_eq_false_iff_ne.2 h4
 have b5:(k == 5)=false:=beq_eq_false_iff_ne.2 h5
 clear h1 h2 h3 h4 h5
 go_enter Tryz.func44,Tryz.ntmps44
 go_wp2_with fail
 go_ret
 exact ⟨rfl,bel_alloc (Below.refl _ _) _⟩
theorem refPart_3 (n:Int) (t:ByteArray) (names:List ByteArray) (items:List JV) (an ai:Option Addr) (ncap icap:Nat) (w:World) (hts:t.size≤281474976710656) (hnl:names.length≤9223372036854775807) (hil:items.length≤9223372036854775807) (r:Bool) (hr:Hid (goodV (.mk 3 n t names items)=r)) :
 Calls Tryz.prog 44 #[.agg #[.int .u8 3,.int .i64 n,.string t,.slice an names.length ncap,.slice ai items.length icap]] w fun e w'=>e=.returned (.bool r)∧Below w.heap.size w w':=by
 obtain ⟨u,hu⟩:∃ u,writ t=u:=⟨_,rfl⟩
 have HU:=Lib.hid hu
 obtain ⟨w2,hw2⟩:∃ x,x=w.alloc (.cells #[.int .u8 3,.int .i64 n,.string t,.slice an names.length ncap,.slice ai items.length icap] 29):=⟨_,rfl⟩
 have hB2:Below w.heap.size w w2:=by rw [hw2];exact bel_alloc (Below.refl _ _) _
 have a3:w2.cell? ⟨w.heap.size,3,none⟩=some (.slice an names.length ncap):=by rw [hw2,cell_al_eq _ _ _ _ _ rfl];rfl
 have a4:w2.cell? ⟨w.heap.size,4,none⟩=some (.slice ai items.length icap):=by rw [hw2,cell_al_eq _ _ _ _ _ rfl];rfl
 have HW:=Lib.hid hw2
 have hcall:=refWrit_any t w2 hts u HU
 clear hw2 hu
 by_cases hn:n=0
 ·have hnb:(n == 0)=true:=by rw [hn];rfl
  have HN:=Lib.hid hn
  clear hn
  go_enter Tryz.func44,Tryz.ntmps44
  go_wp2_with fail
  rw [← HW.out]
  refine hcall.mono ?_
  rintro e w3 ⟨rfl,hb3⟩
  have c3:=cell_keep hb3 a3
  have c4:=cell_keep hb3 a4
  cases u with
  | false =>
    go_wp2_with fail
    go_ret
    refine ⟨ret_bool ?_,below_more hB2 hb3⟩
    rw [← hr.out,goodV_eq]
    simp only [JV.k,properB]
    rw [HU.out]
    simp
  | true =>
    go_wp2_with fail
    all_goals
     go_ret
     refine ⟨ret_bool ?_,below_more hB2 hb3⟩
     rw [← hr.out,goodV_eq]
     simp only [JV.k,properB]
     rw [HU.out,HN.out]
     clear hr HU HW hcall c3 c4 a3 a4
     cases items <;> cases names <;> simp_all <;> omega
 ·have hnb:(n == 0)=false:=beq_eq_false_iff_ne.2 hn
  have hno:r=false:=by
   rw [← hr.out,goodV_eq]
   simp [JV.k,properB,hn]
  have HNO:=Lib.hid hno
  clear hn hno hcall
  go_enter Tryz.func44,Tryz.ntmps44
  go_wp2_with fail
  rw [← HW.out]
  go_ret
  exact ⟨ret_bool HNO.out.symm,hB2⟩
theorem refPart_4n (n:Int) (t:ByteArray) (an ai:Option Addr) (nl il ncap icap:Nat) (w:World) (h:(n != 0)=true) :
 Calls Tryz.prog 44 #[.agg #[.int .u8 4,.int .i64 n,.string t,.slice an nl ncap,.slice ai il icap]] w fun e w'=>e=.returned (.bool false)∧Below w.heap.size w w':=by
 go_enter Tryz.func44,Tryz.ntmps44
 go_wp2_with fail
 go_ret
 exact ⟨rfl,bel_alloc (Below.refl _ _) _⟩
theorem refPart_4t (n:Int) (t:ByteArray) (an ai:Option Addr) (nl il ncap icap:Nat) (w:World) (h:(n != 0)=false) (h2:¬ t.toList=[]) :
 Calls Tryz.prog 44 #[.agg #[.int .u8 4,.int .i64 n,.string t,.slice an nl ncap,.slice ai il icap]] w fun e w'=>e=.returned (.bool false)∧Below w.heap.size w w':=by
 have h3:t.toList.isEmpty=false:=by cases hh:t.toList with | nil=>exact absurd hh h2 | cons a b=>rfl
 go_enter Tryz.func44,Tryz.ntmps44
 go_wp2_with fail
 go_ret
 exact ⟨rfl,bel_alloc (Below.refl _ _) _⟩
theorem refPart_4l (n:Int) (t:ByteArray) (an ai:Option Addr) (nl il ncap icap:Nat) (w:World) (h:(n != 0)=false) (h2:t.toList=[]) (h3:0<nl) :
 Calls Tryz.prog 44 #[.agg #[.int .u8 4,.int .i64 n,.string t,.slice an nl ncap,.slice ai il icap]] w fun e w'=>e=.returned (.bool false)∧Below w.heap.size w w':=by
 have h4:(0:Int)<(nl:Int):=by omega
 have h5:t.toList.isEmpty=true:=by rw [h2];rfl
 go_enter Tryz.func44,Tryz.ntmps44
 go_wp2_with fail
 go_ret
 exact ⟨rfl,bel_alloc (Below.refl _ _) _⟩
theorem refPart_5n (n:Int) (t:ByteArray) (an ai:Option Addr) (nl il ncap icap:Nat) (w:World) (h:(n != 0)=true) :
 Calls Tryz.prog 44 #[.agg #[.int .u8 5,.int .i64 n,.string t,.slice an nl ncap,.slice ai il icap]] w fun e w'=>e=.returned (.bool false)∧Below w.heap.size w w':=by
 go_enter Tryz.func44,Tryz.ntmps44
 go_wp2_with fail
 go_ret
 exact ⟨rfl,bel_alloc (Below.refl _ _) _⟩
theorem refPart_5t (n:Int) (t:ByteArray) (an ai:Option Addr) (nl il ncap icap:Nat) (w:World) (h:(n != 0)=false) (h2:¬ t.toList=[]) :
 Calls Tryz.prog 44 #[.agg #[.int .u8 5,.int .i64 n,.string t,.slice an nl ncap,.slice ai il icap]] w fun e w'=>e=.returned (.bool false)∧Below w.heap.size w w':=by
 have h3:t.toList.isEmpty=false:=by cases hh:t.toList with | nil=>exact absurd hh h2 | cons a b=>rfl
 go_enter Tryz.func44,Tryz.ntmps44
 go_wp2_with fail
 go_ret
 exact ⟨rfl,bel_alloc (Below.refl _ _) _⟩
theorem refPart_5l (n:Int) (t:ByteArray) (an ai:Option Addr) (nl il ncap icap:Nat) (w:World) (h:(n != 0)=false) (h2:t.toList=[]) (h3:¬ nl=il) :
 Calls Tryz.prog 44 #[.agg #[.int .u8 5,.int .i64 n,.string t,.slice an nl ncap,.slice ai il icap]] w fun e w'=>e=.returned (.bool false)∧Below w.heap.size w w':=by
 have h4:((nl:Int) != (il:Int))=true:=by simp;omega
 have h5:t.toList.isEmpty=true:=by rw [h2];rfl
 clear h3
 go_enter Tryz.func44,Tryz.ntmps44
 go_wp2_with fail
 go_ret
 exact ⟨rfl,bel_alloc (Below.refl _ _) _⟩
end

section
set_option maxRecDepth 100000
open Go.RowKit
theorem goodVs_app (a b:List JV):goodVs (a++b)=(goodVs a && goodVs b):=by
 induction a with
 | nil=>simp [goodVs]
 | cons x r ih=>simp only [List.cons_append,goodVs,ih,Bool.and_assoc]
theorem goodVs_step {l:List JV} {j:Nat} {x:JV} (h:l[j]?=some x) (ha:goodVs (l.take j)=true) (hx:goodV x=true):goodVs (l.take (j+1))=true:=by
 rw [List.take_add_one,h,goodVs_app,ha];simp [goodVs,hx]
theorem goodVs_no {l:List JV} {j:Nat} {x:JV} (h:l[j]?=some x) (hx:goodV x=false):goodVs l=false:=by
 cases hh:goodVs l with
 | false=>rfl
 | true=>have:=goodVs_mem hh x (List.mem_of_getElem? h);rw [hx] at this;cases this
theorem refPart_4go (n:Int) (t:ByteArray) (names:List ByteArray) (items:List JV) (vn vi:Value) (w:World) (hns:StrsAt w vn names) (his:ItemsAt w vi items) (hn:(n != 0)=false) (ht:t.toList=[]) (hl:names.length=0) (hnm:∀ s ∈ names,s.size≤281474976710656)
 (ih:∀ (x:JV) (a:Value) (wr:World),x ∈ items→ValAt wr x a→Calls Tryz.prog 44 #[a] wr fun e w'=>e=.returned (.bool (goodV x))∧Below wr.heap.size wr w')
 (r:Bool) (hr:Hid ((ascB names && names.all writ && goodVs items)=r)) :
 Calls Tryz.prog 44 #[.agg #[.int .u8 4,.int .i64 n,.string t,vn,vi]] w fun e w'=>e=.returned (.bool r)∧Below w.heap.size w w':=by
 have HIs:=Lib.hid his
 have HNs:=Lib.hid hns
 obtain ⟨ai,icap,rfl,hI1,-⟩:=his.parts
 obtain ⟨an,ncap,rfl,hN1,-,hnc⟩:=hns.parts
 obtain ⟨il,e2⟩:∃ x,items.length=x:=⟨_,rfl⟩
 obtain ⟨nl,e1⟩:∃ x,names.length=x:=⟨_,rfl⟩
 rw [e2] at hI1 HIs ⊢
 rw [e1] at hN1 HNs ⊢
 rw [e1] at hl
 subst hl
 have HE2:=Lib.hid e2
 have HE1:=Lib.hid e1
 have HNC:=Lib.hid hnc
 have HNM:=Lib.hid hnm
 have HIH:=Lib.hid ih
 clear e1 e2 his hns hnc hnm ih
 have hte:t.toList.isEmpty=true:=by rw [ht];rfl
 obtain ⟨w2,hw2⟩:∃ x,x=w.alloc (.cells #[.int .u8 4,.int .i64 n,.string t,.slice an 0 ncap,.slice ai il icap] 29):=⟨_,rfl⟩
 have hB2:Below w.heap.size w w2:=by rw [hw2];exact bel_alloc (Below.refl _ _) _
 have a3:w2.cell? ⟨w.heap.size,3,none⟩=some (.slice an 0 ncap):=by rw [hw2,cell_al_eq _ _ _ _ _ rfl];rfl
 have a4:w2.cell? ⟨w.heap.size,4,none⟩=some (.slice ai il icap):=by rw [hw2,cell_al_eq _ _ _ _ _ rfl];rfl
 have HW:=Lib.hid hw2
 have hcall:=refRise_any names _ w2 (HNs.out.keep hB2)
 obtain ⟨A,hA⟩:∃ A,ascB names=A:=⟨_,rfl⟩
 rw [hA] at hcall
 have HA:=Lib.hid hA
 have HC:=Lib.hid hcall
 clear hw2 hA hcall
 go_enter Tryz.func44,Tryz.ntmps44
 go_wp2_with fail
 rw [← HW.out]
 refine HC.out.mono ?_
 rintro e w3 ⟨rfl,hb3⟩
 have a3:=cell_keep hb3 a3
 have a4:=cell_keep hb3 a4
 have hB3:=below_more hB2 hb3
 cases A with
 | false =>
   obtain rfl:r=false:=by rw [← hr.out,HA.out];rfl
   go_wp2_with fail
   go_ret
   exact ⟨rfl,hB3⟩
 | true =>
   go_wp2_with fail
   go_loopw [3] (fun i wr=>∃ j:Nat,j≤0∧i=.int .i64 j∧Hid ((names.take j).all writ=true)∧Below w3.heap.size w3 wr) (fun i _=>0 - (intOf i).toNat)
   case atStart=>exact ⟨0,by omega,rfl,by simp [Hid],Below.refl _ _⟩
   case round =>
    obtain ⟨j,hj,rfl,HT,hbr⟩:=hrel
    have c3:=cell_keep hbr a3
    have c4:=cell_keep hbr a4
    by_cases hjl:j<0
    ·exact absurd hjl (by omega)
    ·have hall:names.all writ=true:=by
      have:=HT.out
      rwa [List.take_of_length_le (by rw [HE1.out];omega)] at this
     have HALL:=Lib.hid hall
     clear hall HT HNC
     go_wp2_with fail
     go_loopw [4] (fun i wr=>∃ j:Nat,j≤il∧i=.int .i64 j∧Hid (goodVs (items.take j)=true)∧Below w3.heap.size w3 wr) (fun i _=>il - (intOf i).toNat)
     case atStart=>exact ⟨0,by omega,rfl,by simp [Hid,goodVs],hbr⟩
     case round =>
      obtain ⟨j,hj,rfl,HT,hbr⟩:=hrel
      have c4:=cell_keep hbr a4
      by_cases hjl:j<il
      ·obtain ⟨x,hx⟩:∃ x,items[j]?=some x:=⟨_,List.getElem?_eq_getElem (by rw [HE2.out];exact hjl)⟩
       obtain ⟨_,_,e',-,hpart⟩:=(HIs.out.keep (below_more hB3 hbr)).parts
       simp only [Value.slice.injEq] at e'
       obtain ⟨rfl,-,rfl⟩:=e'
       obtain ⟨xb,xo,xn,xi,rfl,x0,x1,x2,x3,x4,q⟩:=hpart j x hx
       have hvx:=valAt_iff.2 ⟨xn,xi,rfl,q⟩
       obtain ⟨-,-,-,-,-,q1,q2⟩:=q
       obtain ⟨xi1,xi2,rfl,-,-⟩:=q2.parts
       obtain ⟨xn1,xn2,rfl,-,-,-⟩:=q1.parts
       obtain ⟨u,hu⟩:∃ u,goodV x=u:=⟨_,rfl⟩
       have hct:=HIH.out x _ wr (List.mem_of_getElem? hx) hvx
       rw [hu] at hct
       have HU:=Lib.hid hu
       have HX:=Lib.hid hx
       have HCT:=Lib.hid hct
       have hj0:(0:Int)≤(j:Int):=by omega
       have hj1:(j:Int)<(il:Int):=by omega
       clear hu hx hct hpart q1 q2 hvx
       go_wp2_with fail
       refine HCT.out.mono ?_
       rintro e w4 ⟨rfl,hb4⟩
       cases u with
       | true =>
         go_wp2_with fail
         refine ⟨⟨j+1,by omega,by go_num,?_,below_more hbr hb4⟩,by simp [intOf];omega⟩
         exact goodVs_step HX.out HT.out HU.out
       | false =>
         obtain rfl:r=false:=by rw [← hr.out,goodVs_no HX.out HU.out,Bool.and_false]
         go_wp2_with fail
         go_ret
         exact ⟨rfl,below_more (below_more hB3 hbr) hb4⟩
      ·have hall:goodVs items=true:=by
        have:=HT.out
        rwa [List.take_of_length_le (by rw [HE2.out];omega)] at this
       obtain rfl:r=true:=by rw [← hr.out,HA.out,HALL.out,hall];rfl
       clear hall
       go_wp2_with fail
       go_ret
       exact ⟨rfl,below_more hB3 hbr⟩
theorem refPart_5go (n:Int) (t:ByteArray) (names:List ByteArray) (items:List JV) (vn vi:Value) (w:World) (hns:StrsAt w vn names) (his:ItemsAt w vi items) (hn:(n != 0)=false) (ht:t.toList=[]) (hl:names.length=items.length) (hnm:∀ s ∈ names,s.size≤281474976710656)
 (ih:∀ (x:JV) (a:Value) (wr:World),x ∈ items→ValAt wr x a→Calls Tryz.prog 44 #[a] wr fun e w'=>e=.returned (.bool (goodV x))∧Below wr.heap.size wr w')
 (r:Bool) (hr:Hid ((ascB names && names.all writ && goodVs items)=r)) :
 Calls Tryz.prog 44 #[.agg #[.int .u8 5,.int .i64 n,.string t,vn,vi]] w fun e w'=>e=.returned (.bool r)∧Below w.heap.size w w':=by
 have HIs:=Lib.hid his
 have HNs:=Lib.hid hns
 obtain ⟨ai,icap,rfl,hI1,-⟩:=his.parts
 obtain ⟨an,ncap,rfl,hN1,-,hnc⟩:=hns.parts
 obtain ⟨il,e2⟩:∃ x,items.length=x:=⟨_,rfl⟩
 obtain ⟨nl,e1⟩:∃ x,names.length=x:=⟨_,rfl⟩
 rw [e2] at hI1 HIs ⊢
 rw [e1] at hN1 HNs ⊢
 rw [e1] at hl
 rw [e2] at hl
 have HE2:=Lib.hid e2
 have HE1:=Lib.hid e1
 have HL:=Lib.hid hl
 have HNC:=Lib.hid hnc
 have HNM:=Lib.hid hnm
 have HIH:=Lib.hid ih
 clear e1 e2 his hns hl hnc hnm ih
 have hte:t.toList.isEmpty=true:=by rw [ht];rfl
 have hl0:((nl:Int) != (il:Int))=false:=by have:=HL.out;simp;omega
 obtain ⟨w2,hw2⟩:∃ x,x=w.alloc (.cells #[.int .u8 5,.int .i64 n,.string t,.slice an nl ncap,.slice ai il icap] 29):=⟨_,rfl⟩
 have hB2:Below w.heap.size w w2:=by rw [hw2];exact bel_alloc (Below.refl _ _) _
 have a3:w2.cell? ⟨w.heap.size,3,none⟩=some (.slice an nl ncap):=by rw [hw2,cell_al_eq _ _ _ _ _ rfl];rfl
 have a4:w2.cell? ⟨w.heap.size,4,none⟩=some (.slice ai il icap):=by rw [hw2,cell_al_eq _ _ _ _ _ rfl];rfl
 have HW:=Lib.hid hw2
 have hcall:=refRise_any names _ w2 (HNs.out.keep hB2)
 obtain ⟨A,hA⟩:∃ A,ascB names=A:=⟨_,rfl⟩
 rw [hA] at hcall
 have HA:=Lib.hid hA
 have HC:=Lib.hid hcall
 clear hw2 hA hcall
 go_enter Tryz.func44,Tryz.ntmps44
 go_wp2_with fail
 rw [← HW.out]
 refine HC.out.mono ?_
 rintro e w3 ⟨rfl,hb3⟩
 have a3:=cell_keep hb3 a3
 have a4:=cell_keep hb3 a4
 have hB3:=below_more hB2 hb3
 cases A with
 | false =>
   obtain rfl:r=false:=by rw [← hr.out,HA.out];rfl
   go_wp2_with fail
   go_ret
   exact ⟨rfl,hB3⟩
 | true =>
   go_wp2_with fail
   go_loopw [3] (fun i wr=>∃ j:Nat,j≤nl∧i=.int .i64 j∧Hid ((names.take j).all writ=true)∧Below w3.heap.size w3 wr) (fun i _=>nl - (intOf i).toNat)
   case atStart=>exact ⟨0,by omega,rfl,by simp [Hid],Below.refl _ _⟩
   case round =>
    obtain ⟨j,hj,rfl,HT,hbr⟩:=hrel
    have c3:=cell_keep hbr a3
    have c4:=cell_keep hbr a4
    by_cases hjl:j<nl
    ·obtain ⟨s,hs⟩:∃ x,names[j]?=some x:=⟨_,List.getElem?_eq_getElem (by rw [HE1.out];exact hjl)⟩
     obtain ⟨nb,no_,rfl,hcell⟩:=HNC.out j s hs
     have hcell2:=cell_keep (below_more hB3 hbr) hcell
     obtain ⟨u,hu⟩:∃ u,writ s=u:=⟨_,rfl⟩
     have hct:=refWrit_any s wr (HNM.out s (List.mem_of_getElem? hs)) u hu
     have HU:=Lib.hid hu
     have HS:=Lib.hid hs
     have HCT:=Lib.hid hct
     have hj0:(0:Int)≤(j:Int):=by omega
     have hj1:(j:Int)<(nl:Int):=by omega
     clear hu hs hct hcell
     go_wp2_with fail
     refine HCT.out.mono ?_
     rintro e w4 ⟨rfl,hb4⟩
     cases u with
     | true =>
       go_wp2_with fail
       refine ⟨⟨j+1,by omega,by go_num,?_,below_more hbr hb4⟩,by simp [intOf];omega⟩
       exact all_step HS.out HT.out HU.out
     | false =>
       obtain rfl:r=false:=by rw [← hr.out,all_no HS.out HU.out];simp
       go_wp2_with fail
       go_ret
       exact ⟨rfl,below_more (below_more hB3 hbr) hb4⟩
    ·have hall:names.all writ=true:=by
      have:=HT.out
      rwa [List.take_of_length_le (by rw [HE1.out];omega)] at this
     have HALL:=Lib.hid hall
     clear hall HT HNC
     go_wp2_with fail
     go_loopw [4] (fun i wr=>∃ j:Nat,j≤il∧i=.int .i64 j∧Hid (goodVs (items.take j)=true)∧Below w3.heap.size w3 wr) (fun i _=>il - (intOf i).toNat)
     case atStart=>exact ⟨0,by omega,rfl,by simp [Hid,goodVs],hbr⟩
     case round =>
      obtain ⟨j,hj,rfl,HT,hbr⟩:=hrel
      have c4:=cell_keep hbr a4
      by_cases hjl:j<il
      ·obtain ⟨x,hx⟩:∃ x,items[j]?=some x:=⟨_,List.getElem?_eq_getElem (by rw [HE2.out];exact hjl)⟩
       obtain ⟨_,_,e',-,hpart⟩:=(HIs.out.keep (below_more hB3 hbr)).parts
       simp only [Value.slice.injEq] at e'
       obtain ⟨rfl,-,rfl⟩:=e'
       obtain ⟨xb,xo,xn,xi,rfl,x0,x1,x2,x3,x4,q⟩:=hpart j x hx
       have hvx:=valAt_iff.2 ⟨xn,xi,rfl,q⟩
       obtain ⟨-,-,-,-,-,q1,q2⟩:=q
       obtain ⟨xi1,xi2,rfl,-,-⟩:=q2.parts
       obtain ⟨xn1,xn2,rfl,-,-,-⟩:=q1.parts
       obtain ⟨u,hu⟩:∃ u,goodV x=u:=⟨_,rfl⟩
       have hct:=HIH.out x _ wr (List.mem_of_getElem? hx) hvx
       rw [hu] at hct
       have HU:=Lib.hid hu
       have HX:=Lib.hid hx
       have HCT:=Lib.hid hct
       have hj0:(0:Int)≤(j:Int):=by omega
       have hj1:(j:Int)<(il:Int):=by omega
       clear hu hx hct hpart q1 q2 hvx
       go_wp2_with fail
       refine HCT.out.mono ?_
       rintro e w4 ⟨rfl,hb4⟩
       cases u with
       | true =>
         go_wp2_with fail
         refine ⟨⟨j+1,by omega,by go_num,?_,below_more hbr hb4⟩,by simp [intOf];omega⟩
         exact goodVs_step HX.out HT.out HU.out
       | false =>
         obtain rfl:r=false:=by rw [← hr.out,goodVs_no HX.out HU.out,Bool.and_false]
         go_wp2_with fail
         go_ret
         exact ⟨rfl,below_more (below_more hB3 hbr) hb4⟩
      ·have hall:goodVs items=true:=by
        have:=HT.out
        rwa [List.take_of_length_le (by rw [HE2.out];omega)] at this
       obtain rfl:r=true:=by rw [← hr.out,HA.out,HALL.out,hall];rfl
       clear hall
       go_wp2_with fail
       go_ret
       exact ⟨rfl,below_more hB3 hbr⟩
theorem wtN_mem:∀ {l:List ByteArray} {s:ByteArray},s ∈ l→s.size≤wtN l
 | x :: r,s,h=>by
   have e:wtN (x :: r)=(2+x.size)+wtN r:=by simp [wtN]
   rw [e]
   rcases List.mem_cons.1 h with rfl | h
   ·omega
   ·have:=wtN_mem h;omega
theorem wtL_mem:∀ {l:List JV} {x:JV},x ∈ l→wt x≤wtL l
 | y :: r,x,h=>by
   rw [wtL]
   rcases List.mem_cons.1 h with rfl | h
   ·omega
   ·have:=wtL_mem h;omega
mutual
theorem count_wt:∀ V:JV,countV V≤wt V
 | .mk k n t names items=>by
   rw [countV,wt_eq]
   have:=count_wtL items
   simp only [JV.items]
   omega
theorem count_wtL:∀ l:List JV,countL l≤wtL l
 | []=>by rw [countL,wtL];omega
 | x :: r=>by
   rw [countL,wtL]
   have:=count_wt x
   have:=count_wtL r
   omega
end
theorem refPart_fuel (N:Nat):∀ (V:JV) (v:Value) (w:World),SizeOf.sizeOf V<N→ValAt w V v→wt V≤1000000000 →
 Calls Tryz.prog 44 #[v] w fun e w'=>e=.returned (.bool (goodV V))∧Below w.heap.size w w':=by
 induction N with
 | zero=>intro V v w h;omega
 | succ N ih =>
   intro V v w hN hV hwt
   obtain ⟨vn,vi,rfl,k0,k1,n0,n1,ht,hns,his⟩:=valAt_iff.1 hV
   have hw:=wt_eq V
   have hsub:∀ (x:JV) (a:Value) (wr:World),x ∈ V.items→ValAt wr x a→Calls Tryz.prog 44 #[a] wr fun e w'=>e=.returned (.bool (goodV x))∧Below wr.heap.size wr w':=by
    intro x a wr hx ha
    have h1:=JV.size_item hx
    have h2:=wtL_mem hx
    exact ih x a wr (by omega) ha (by omega)
   have hnm:∀ s ∈ V.names,s.size≤281474976710656:=fun s hs=>by have:=wtN_mem hs;omega
   clear ih hN hV
   obtain ⟨k,n,t,names,items⟩:=V
   simp only [JV.k,JV.n,JV.t,JV.names,JV.items] at *
   obtain ⟨ai,icap,rfl,hI1,-⟩:=his.parts
   obtain ⟨an,ncap,rfl,hN1,-,-⟩:=hns.parts
   by_cases h1:k=1
   ·subst h1;exact refPart_1 n t names items an ai ncap icap w hN1 hI1 _ rfl
   by_cases h2:k=2
   ·subst h2;exact refPart_2 n t names items an ai ncap icap w hN1 hI1 _ rfl
   by_cases h3:k=3
   ·subst h3;exact refPart_3 n t names items an ai ncap icap w (by omega) hN1 hI1 _ rfl
   by_cases h4:k=4
   ·subst h4
    have hg:goodV (.mk 4 n t names items)=(properB (.mk 4 n t names items) && goodVs items):=by rw [goodV_eq];rfl
    rw [hg]
    by_cases hn:n=0
    ·by_cases htl:t.toList=[]
     ·by_cases hnl:0<names.length
      ·rw [show properB (.mk 4 n t names items)=false by simp [properB,hnl],Bool.false_and]
       exact refPart_4l n t an ai _ _ ncap icap w (by simp [hn]) htl hnl
      ·obtain rfl:names=[]:=List.length_eq_zero_iff.1 (by omega)
       have hp:properB (.mk 4 n t [] items)=true:=by simp [properB,hn,htl]
       rw [hp]
       exact refPart_4go n t [] items _ _ w hns his (by simp [hn]) htl rfl hnm hsub _ (by simp [Hid,ascB])
     ·rw [show properB (.mk 4 n t names items)=false by simp [properB,htl],Bool.false_and]
      exact refPart_4t n t an ai _ _ ncap icap w (by simp [hn]) htl
    ·rw [show properB (.mk 4 n t names items)=false by simp [properB,hn],Bool.false_and]
     exact refPart_4n n t an ai _ _ ncap icap w (by simp [hn])
   by_cases h5:k=5
   ·subst h5
    have hg:goodV (.mk 5 n t names items)=(properB (.mk 5 n t names items) && goodVs items):=by rw [goodV_eq];rfl
    rw [hg]
    by_cases hn:n=0
    ·by_cases htl:t.toList=[]
     ·by_cases hnl:names.length=items.length
      ·have hp:properB (.mk 5 n t names items)=(ascB names && names.all writ):=by simp [properB,hn,htl,hnl]
       rw [hp]
       exact refPart_5go n t names items _ _ w hns his (by simp [hn]) htl hnl hnm hsub _ rfl
      ·rw [show properB (.mk 5 n t names items)=false by simp [properB,hnl],Bool.false_and]
       exact refPart_5l n t an ai _ _ ncap icap w (by simp [hn]) htl hnl
     ·rw [show properB (.mk 5 n t names items)=false by simp [properB,htl],Bool.false_and]
      exact refPart_5t n t an ai _ _ ncap icap w (by simp [hn]) htl
    ·rw [show properB (.mk 5 n t names items)=false by simp [properB,hn],Bool.false_and]
     exact refPart_5n n t an ai _ _ ncap icap w (by simp [hn])
   have hg:goodV (.mk k n t names items)=false:=by
    rw [goodV_eq]
    simp [properB,h1,h2,h3,h4,h5]
   rw [hg]
   exact refPart_0 k n t an ai _ _ ncap icap w h1 h2 h3 h4 h5
theorem refMay_any (V:JV) (v:Value) (w:World) (h:ValAt w V v) (hwt:wt V≤1000000000) (r:Bool) (hr:Hid (mayB V=r)) :
 Calls Tryz.prog 12 #[v] w fun e w'=>e=.returned (.bool r)∧Below w.heap.size w w':=by
 obtain ⟨vn,vi,rfl,k0,k1,n0,n1,ht,hns,his⟩:=valAt_iff.1 h
 obtain ⟨ai,icap,rfl,-,-⟩:=his.parts
 obtain ⟨an,ncap,rfl,-,-,-⟩:=hns.parts
 have hcv:=count_wt V
 have hdc:=depth_count V
 obtain ⟨w2,hw2⟩:∃ x,x=w.alloc (.cells #[.int .u8 V.k,.int .i64 V.n,.string V.t,.slice an V.names.length ncap,.slice ai V.items.length icap] 29):=⟨_,rfl⟩
 have hB2:Below w.heap.size w w2:=by rw [hw2];exact bel_alloc (Below.refl _ _) _
 have a0:w2.cell? ⟨w.heap.size,0,none⟩=some (.int .u8 V.k):=by rw [hw2,cell_al_eq _ _ _ _ _ rfl];rfl
 have a1:w2.cell? ⟨w.heap.size,1,none⟩=some (.int .i64 V.n):=by rw [hw2,cell_al_eq _ _ _ _ _ rfl];rfl
 have a2:w2.cell? ⟨w.heap.size,2,none⟩=some (.string V.t):=by rw [hw2,cell_al_eq _ _ _ _ _ rfl];rfl
 have a3:w2.cell? ⟨w.heap.size,3,none⟩=some (.slice an V.names.length ncap):=by rw [hw2,cell_al_eq _ _ _ _ _ rfl];rfl
 have a4:w2.cell? ⟨w.heap.size,4,none⟩=some (.slice ai V.items.length icap):=by rw [hw2,cell_al_eq _ _ _ _ _ rfl];rfl
 have hV2:=Lib.hid (h.keep hB2)
 have HW:=Lib.hid hw2
 have hcall:=refPart_fuel _ V _ w2 (Nat.lt_succ_self _) hV2.out hwt
 obtain ⟨g,hg⟩:∃ g,goodV V=g:=⟨_,rfl⟩
 rw [hg] at hcall
 have HG:=Lib.hid hg
 have HC:=Lib.hid hcall
 clear hw2 h hns his hcall hg
 have hrr:r=(g && (decide (countV V≤8192) && decide (depthV V≤12))):=by
  rw [← hr.out,Bool.eq_iff_iff,mayB_iff,HG.out]
  simp only [Bool.and_eq_true,decide_eq_true_eq]
  constructor
  ·rintro ⟨x,y,z⟩;exact ⟨x,z,y⟩
  ·rintro ⟨x,z,y⟩;exact ⟨x,y,z⟩
 have HRR:=Lib.hid hrr
 clear hrr hr
 go_enter Tryz.func12,Tryz.ntmps12
 go_wp2_with fail
 rw [← HW.out]
 refine HC.out.mono ?_
 rintro e w3 ⟨rfl,hb3⟩
 cases g with
 | false =>
   go_wp2_with fail
   go_ret
   exact ⟨ret_bool (by rw [HRR.out];rfl),below_more hB2 hb3⟩
 | true =>
   have a0:=cell_keep hb3 a0
   have a1:=cell_keep hb3 a1
   have a2:=cell_keep hb3 a2
   have a3:=cell_keep hb3 a3
   have a4:=cell_keep hb3 a4
   have hV3:=Lib.hid (hV2.out.keep hb3)
   go_wp2_with fail
   refine (refCount_any _ V _ _ (Nat.lt_succ_self _) hV3.out (by omega)).mono ?_
   rintro e w4 ⟨rfl,hb4⟩
   have a0:=cell_keep hb4 a0
   have a1:=cell_keep hb4 a1
   have a2:=cell_keep hb4 a2
   have a3:=cell_keep hb4 a3
   have a4:=cell_keep hb4 a4
   have hV4:=Lib.hid (hV3.out.keep hb4)
   by_cases hc:countV V≤8192
   ·have hci:(countV V:Int)≤8192:=by omega
    go_wp2_with fail
    refine (refDepth_any _ V _ _ (Nat.lt_succ_self _) hV4.out (by omega)).mono ?_
    rintro e w5 ⟨rfl,hb5⟩
    go_wp2_with fail
    go_ret
    refine ⟨ret_bool ?_,below_more (below_more (below_more hB2 hb3) hb4) hb5⟩
    rw [HRR.out,decide_eq_true hc,Bool.true_and,Bool.true_and,Bool.eq_iff_iff,decide_eq_true_eq,decide_eq_true_eq]
    omega
   ·have hci:¬ (countV V:Int)≤8192:=by omega
    go_wp2_with fail
    go_ret
    exact ⟨ret_bool (by rw [HRR.out,decide_eq_false hc];rfl),below_more (below_more hB2 hb3) hb4⟩
end
end Go.Proofs.YtchinankclckjaaGreatDoor
