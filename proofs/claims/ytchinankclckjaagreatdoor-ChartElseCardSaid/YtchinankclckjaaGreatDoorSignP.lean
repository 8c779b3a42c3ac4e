/-
  value.May: whether a value may be. value.may and value.May: whether a value may be, how deep and how much it is counted in. quote.Quote: the canonical form of a string. The canonical form of a value, as plain lists of bytes.
  Values that are unlike have unlike forms, and no form but a number's is the beginning of another one. Which values may be, told by counting.
  Envelopes plainly: digits, signatures, what stands by a name, the envelope of a value.
-/
import Derived.Test.YtchinankclckjaaGreatDoorValA
import Derived.Test.YtchinankclckjaaGreatDoorUtfA
import Derived.Deep.QuietTactic
import Derived.BigQuiet
import Derived.IntWalk
import Derived.Deep.Light
import Derived.OneCell
import Derived.Test.YtchinankclckjaaGreatDoorBuildA
import Derived.Test.YtchinankclckjaaGreatDoorReadP
namespace Go.Proofs.YtchinankclckjaaGreatDoor
set_option maxHeartbeats 2000000
section
set_option maxRecDepth 100000
section
open Go.RowKit
def writ (s:ByteArray):Bool:=decide (s.size≤4096) && utfOK s
theorem written_any (s:ByteArray) (w:World) (hs:s.size≤maxLen) :
 Calls Tryz.prog 120 #[.string s] w fun e w'=>e=.returned (.bool (writ s))∧Below w.heap.size w w':=by
 by_cases h:s.size≤4096
 ·have hw:writ s=utfOK s:=by simp [writ,h]
  have HW:=Lib.hid hw
  clear hw
  go_enter Tryz.func120,Tryz.ntmps120
  go_wp2_with fail
  refine (utfValid_any s _ hs).mono ?_
  rintro e w' ⟨rfl,hb⟩
  go_wp2_with fail
  go_ret
  exact ⟨ret_bool HW.out.symm,hb⟩
 ·have hw:writ s=false:=by simp [writ,h]
  have HW:=Lib.hid hw
  clear hw
  go_enter Tryz.func120,Tryz.ntmps120
  go_wp2_with fail
  go_ret
  exact ⟨ret_bool HW.out.symm,Below.refl _ _⟩
def lessAt (l:List ByteArray) (i:Nat):Bool:=Op.bytesLess (l.getD i ByteArray.empty).toList (l.getD (i+1) ByteArray.empty).toList
def ascB (l:List ByteArray):Bool:=(List.range (l.length - 1)).all (lessAt l)
def ascTo (l:List ByteArray) (k:Nat):Bool:=(List.range (k - 1)).all (lessAt l)
theorem ascending_any (l:List ByteArray) (v:Value) (w:World) (h:StrsAt w v l) :
 Calls Tryz.prog 121 #[v] w fun e w'=>e=.returned (.bool (ascB l))∧Below w.heap.size w w':=by
 obtain ⟨a,cap,rfl,hl,hm,hc⟩:=h.parts
 have HC:=Lib.hid hc
 clear hc h hm
 obtain ⟨len,hlen⟩:∃ n,l.length=n:=⟨_,rfl⟩
 rw [hlen] at hl ⊢
 have HL:=Lib.hid hlen
 clear hlen
 go_enter Tryz.func121,Tryz.ntmps121
 go_wp2_with fail
 go_loopw [3] (fun i wr=>∃ k:Nat,1≤k∧(k≤len∨k=1)∧i=.int .i64 k∧Hid (ascTo l k=true)∧∃ nq,wr=w.drewN nq) (fun i _=>len - (intOf i).toNat)
 case atStart=>exact ⟨1,by omega,Or.inr rfl,rfl,rfl,0,rfl⟩
 case round =>
  obtain ⟨k,hk1,hk,rfl,HA,nq,rfl⟩:=hrel
  obtain ⟨j,rfl⟩:∃ j,k=j+1:=⟨k - 1,by omega⟩
  by_cases hlt:j+1<len
  ·obtain ⟨s,hs⟩:∃ s,l[j+1]?=some s:=⟨_,List.getElem?_eq_getElem (by rw [HL.out];exact hlt)⟩
   obtain ⟨p,hp⟩:∃ s,l[j]?=some s:=⟨_,List.getElem?_eq_getElem (by rw [HL.out];omega)⟩
   obtain ⟨b,o,rfl,hcs⟩:=HC.out (j+1) s hs
   obtain ⟨b',o',hbo,hcp⟩:=HC.out j p hp
   simp only [Option.some.injEq,Addr.mk.injEq,and_true] at hbo
   obtain ⟨rfl,rfl⟩:=hbo
   have hless:lessAt l j=Op.bytesLess p.toList s.toList:=by simp [lessAt,List.getD,hs,hp]
   have hto:ascTo l (j+1+1)=(ascTo l (j+1) && lessAt l j):=by
    simp only [ascTo,Nat.add_sub_cancel,List.range_succ,List.all_append,List.all_cons,List.all_nil,Bool.and_true]
   have HLs:=Lib.hid hless
   have HTo:=Lib.hid hto
   clear hs hp hless hto
   have hw1:IntKind.i64.wrap ((j:Int)+1 - 1)=(j:Int):=by rw [IntWalk.i64_in ((j:Int)+1 - 1) (by omega)];omega
   have hj0:(0:Int)≤(j:Int):=by omega
   have hj1:(j:Int)<(len:Int):=by omega
   have hj2:(j:Int)+1<(len:Int):=by omega
   have hj3:((j:Int)+1).toNat=j+1:=by omega
   by_cases hb:Op.bytesLess p.toList s.toList=true
   ·go_wp2_with fail
    go_quiet (fail)
    go_wp2_with fail
    refine ⟨⟨j+1+1,by omega,by omega,by go_num,?_,_,rfl⟩,?_⟩
    ·show ascTo l (j+1+1)=true
     rw [HTo.out,HA.out,HLs.out];simpa using hb
    ·simp [intOf];omega
   ·have hbf:Op.bytesLess p.toList s.toList=false:=by simpa using hb
    have hno:ascB l=false:=by
     rw [ascB,List.all_eq_false]
     refine ⟨j,List.mem_range.2 (by rw [HL.out];omega),?_⟩
     rw [HLs.out,hbf];simp
    have HNO:=Lib.hid hno
    clear hno hb
    go_wp2_with fail
    go_quiet (fail)
    go_wp2_with fail
    go_ret
    exact ⟨ret_bool HNO.out.symm,below_drewN (below_drewN (Below.refl _ _) _) _⟩
  ·have hyes:ascB l=true:=by
    have:=HA.out
    rw [ascB,HL.out]
    rw [ascTo] at this
    have e:len - 1=j+1 - 1:=by omega
    rw [e];exact this
   have HY:=Lib.hid hyes
   clear hyes
   go_wp2_with fail
   go_ret
   exact ⟨ret_bool HY.out.symm,below_drewN (Below.refl _ _) _⟩
theorem box_cell {w w2:World} {cs:Array Value} {t:TypeId} (hb:Below (w.alloc (.cells cs t)).heap.size (w.alloc (.cells cs t)) w2) (i:Nat) (v:Value) (h:cs[i]?=some v):w2.cell? ⟨w.heap.size,i,none⟩=some v:=by
 have hh:(w.alloc (.cells cs t)).heap[w.heap.size]?=some (.cells cs t):=by
  show (w.heap.push (.cells cs t))[w.heap.size]?=_
  simp
 rw [hb.cell (p:=⟨w.heap.size,i,none⟩) (by simp)]
 unfold World.cell?
 simp only [hh]
 simpa using h
theorem all_step {l:List ByteArray} {p:ByteArray→Bool} {k:Nat} {s:ByteArray} (h:l[k]?=some s) (ha:(l.take k).all p=true) (hs:p s=true):(l.take (k+1)).all p=true:=by
 rw [List.take_add_one,h,List.all_append,ha];simp [hs]
theorem all_no {l:List ByteArray} {p:ByteArray→Bool} {k:Nat} {s:ByteArray} (h:l[k]?=some s) (hs:p s=false):l.all p=false:=by
 rw [List.all_eq_false];exact ⟨s,List.mem_of_getElem? h,by simp [hs]⟩
def properB:JV→Bool
 | .mk k n t names items =>
   if (k≠1∧k≠2∧n≠0)∨(k≠3∧t.toList≠[]) then false
   else if (k≠5∧0<names.length)∨(k≠5∧k≠4∧0<items.length) then false
   else if k=1 then decide (n=0) || decide (n=1)
   else if k=2∨k=4 then true
   else if k=3 then writ t
   else if k=5 then decide (names.length=items.length) && ascB names && names.all writ
   else false
theorem proper1 (n:Int) (t:ByteArray) (names:List ByteArray) (items:List JV) (vn vi:Value) (w:World) (_n0:-9223372036854775808≤n) (_n1:n≤9223372036854775807) (_ht:t.size≤maxLen) (hns:StrsAt w vn names) (his:ItemsAt w vi items) (r:Bool) (hr:Hid (properB (.mk 1 n t names items)=r)) :
 Calls Tryz.prog 97 #[.agg #[.int .u8 1,.int .i64 n,.string t,vn,vi]] w fun e w'=>e=.returned (.bool r)∧Below w.heap.size w w':=by
 obtain ⟨an,ncap,rfl,hnl,hnm,hnc⟩:=hns.parts
 obtain ⟨ai,icap,rfl,hil,hic⟩:=his.parts
 clear his hic
 obtain ⟨nlen,hnlen⟩:∃ n,names.length=n:=⟨_,rfl⟩
 obtain ⟨ilen,hilen⟩:∃ n,items.length=n:=⟨_,rfl⟩
 rw [hnlen] at hnl hns ⊢
 rw [hilen] at hil ⊢
 have HN:=Lib.hid hnlen
 have HI:=Lib.hid hilen
 have HNM:=Lib.hid hnm
 have HNC:=Lib.hid hnc
 clear hnlen hilen hnm hnc
 go_enter Tryz.func97,Tryz.ntmps97
 go_wp2_with fail
 all_goals
  go_ret
  refine ⟨ret_bool ?_,(Below.refl _ _).alloc (Nat.le_refl _) _⟩
  rw [← hr.out]
  go_light
  have hn':=HN.out
  have hi':=HI.out
  clear HN HI HNM HNC hr
  simp_all [properB]
  all_goals first | done | omega | (rw [Bool.eq_iff_iff];simp;omega)
theorem proper2 (n:Int) (t:ByteArray) (names:List ByteArray) (items:List JV) (vn vi:Value) (w:World) (_n0:-9223372036854775808≤n) (_n1:n≤9223372036854775807) (_ht:t.size≤maxLen) (hns:StrsAt w vn names) (his:ItemsAt w vi items) (r:Bool) (hr:Hid (properB (.mk 2 n t names items)=r)) :
 Calls Tryz.prog 97 #[.agg #[.int .u8 2,.int .i64 n,.string t,vn,vi]] w fun e w'=>e=.returned (.bool r)∧Below w.heap.size w w':=by
 obtain ⟨an,ncap,rfl,hnl,hnm,hnc⟩:=hns.parts
 obtain ⟨ai,icap,rfl,hil,hic⟩:=his.parts
 clear his hic
 obtain ⟨nlen,hnlen⟩:∃ n,names.length=n:=⟨_,rfl⟩
 obtain ⟨ilen,hilen⟩:∃ n,items.length=n:=⟨_,rfl⟩
 rw [hnlen] at hnl hns ⊢
 rw [hilen] at hil ⊢
 have HN:=Lib.hid hnlen
 have HI:=Lib.hid hilen
 have HNM:=Lib.hid hnm
 have HNC:=Lib.hid hnc
 clear hnlen hilen hnm hnc
 go_enter Tryz.func97,Tryz.ntmps97
 go_wp2_with fail
 all_goals
  go_ret
  refine ⟨ret_bool ?_,(Below.refl _ _).alloc (Nat.le_refl _) _⟩
  rw [← hr.out]
  go_light
  have hn':=HN.out
  have hi':=HI.out
  clear HN HI HNM HNC hr
  simp_all [properB]
  all_goals first | done | omega | (rw [Bool.eq_iff_iff];simp;omega)
theorem proper4 (n:Int) (t:ByteArray) (names:List ByteArray) (items:List JV) (vn vi:Value) (w:World) (_n0:-9223372036854775808≤n) (_n1:n≤9223372036854775807) (_ht:t.size≤maxLen) (hns:StrsAt w vn names) (his:ItemsAt w vi items) (r:Bool) (hr:Hid (properB (.mk 4 n t names items)=r)) :
 Calls Tryz.prog 97 #[.agg #[.int .u8 4,.int .i64 n,.string t,vn,vi]] w fun e w'=>e=.returned (.bool r)∧Below w.heap.size w w':=by
 obtain ⟨an,ncap,rfl,hnl,hnm,hnc⟩:=hns.parts
 obtain ⟨ai,icap,rfl,hil,hic⟩:=his.parts
 clear his hic
 obtain ⟨nlen,hnlen⟩:∃ n,names.length=n:=⟨_,rfl⟩
 obtain ⟨ilen,hilen⟩:∃ n,items.length=n:=⟨_,rfl⟩
 rw [hnlen] at hnl hns ⊢
 rw [hilen] at hil ⊢
 have HN:=Lib.hid hnlen
 have HI:=Lib.hid hilen
 have HNM:=Lib.hid hnm
 have HNC:=Lib.hid hnc
 clear hnlen hilen hnm hnc
 go_enter Tryz.func97,Tryz.ntmps97
 go_wp2_with fail
 all_goals
  go_ret
  refine ⟨ret_bool ?_,(Below.refl _ _).alloc (Nat.le_refl _) _⟩
  rw [← hr.out]
  go_light
  have hn':=HN.out
  have hi':=HI.out
  clear HN HI HNM HNC hr
  simp_all [properB]
  all_goals first | done | omega | (rw [Bool.eq_iff_iff];simp;omega)
theorem proper0 (k:Int) (h1:¬ k=1) (h2:¬ k=2) (h3:¬ k=3) (h4:¬ k=4) (h5:¬ k=5) (n:Int) (t:ByteArray) (names:List ByteArray) (items:List JV) (vn vi:Value) (w:World) (_n0:-9223372036854775808≤n) (_n1:n≤9223372036854775807) (_ht:t.size≤maxLen) (hns:StrsAt w vn names) (his:ItemsAt w vi items) (r:Bool) (hr:Hid (properB (.mk k n t names items)=r)) :
 Calls Tryz.prog 97 #[.agg #[.int .u8 k,.int .i64 n,.string t,vn,vi]] w fun e w'=>e=.returned (.bool r)∧Below w.heap.size w w':=by
 obtain ⟨an,ncap,rfl,hnl,hnm,hnc⟩:=hns.parts
 obtain ⟨ai,icap,rfl,hil,hic⟩:=his.parts
 clear his hic
 obtain ⟨nlen,hnlen⟩:∃ n,names.length=n:=⟨_,rfl⟩
 obtain ⟨ilen,hilen⟩:∃ n,items.length=n:=⟨_,rfl⟩
 rw [hnlen] at hnl hns ⊢
 rw [hilen] at hil ⊢
 have HN:=Lib.hid hnlen
 have HI:=Lib.hid hilen
 have HNM:=Lib.hid hnm
 have HNC:=Lib.hid hnc
 clear hnlen hilen hnm hnc
 have hr':r=false:=by
  rw [← hr.out,properB]
  simp [h1,h2,h3,h4,h5]
 have e1:(k == 1)=false:=beq_eq_false_iff_ne.2 h1
 have e2:(k == 2)=false:=beq_eq_false_iff_ne.2 h2
 have e3:(k == 3)=false:=beq_eq_false_iff_ne.2 h3
 have e4:(k == 4)=false:=beq_eq_false_iff_ne.2 h4
 have e5:(k == 5)=false:=beq_eq_false_iff_ne.2 h5
 have f1:(k != 1)=true:=by simp [h1]
 have f2:(k != 2)=true:=by simp [h2]
 have f3:(k != 3)=true:=by simp [h3]
 have f4:(k != 4)=true:=by simp [h4]
 have f5:(k != 5)=true:=by simp [h5]
 subst hr'
 clear hr h1 h2 h3 h4 h5
 go_enter Tryz.func97,Tryz.ntmps97
 go_wp2_with fail
 all_goals
  go_ret
  exact ⟨rfl,(Below.refl _ _).alloc (Nat.le_refl _) _⟩
theorem proper3 (n:Int) (t:ByteArray) (names:List ByteArray) (items:List JV) (vn vi:Value) (w:World) (n0:-9223372036854775808≤n) (n1:n≤9223372036854775807) (ht:t.size≤maxLen) (hns:StrsAt w vn names) (his:ItemsAt w vi items) (r:Bool) (hr:Hid (properB (.mk 3 n t names items)=r)) :
 Calls Tryz.prog 97 #[.agg #[.int .u8 3,.int .i64 n,.string t,vn,vi]] w fun e w'=>e=.returned (.bool r)∧Below w.heap.size w w':=by
 obtain ⟨an,ncap,rfl,hnl,hnm,hnc⟩:=hns.parts
 obtain ⟨ai,icap,rfl,hil,hic⟩:=his.parts
 clear his hic
 obtain ⟨nlen,hnlen⟩:∃ n,names.length=n:=⟨_,rfl⟩
 obtain ⟨ilen,hilen⟩:∃ n,items.length=n:=⟨_,rfl⟩
 rw [hnlen] at hnl hns ⊢
 rw [hilen] at hil ⊢
 have HN:=Lib.hid hnlen
 have HI:=Lib.hid hilen
 have HNM:=Lib.hid hnm
 have HNC:=Lib.hid hnc
 clear hnlen hilen hnm hnc
 by_cases hok:n=0∧nlen=0∧ilen=0
 ·obtain ⟨rfl,rfl,rfl⟩:=hok
  have hw:properB (.mk 3 0 t names items)=writ t:=by
   have hn':=HN.out
   have hi':=HI.out
   simp_all [properB]
  have HW:=Lib.hid (hw.symm.trans hr.out)
  clear hw hr
  go_enter Tryz.func97,Tryz.ntmps97
  go_wp2_with fail
  refine (written_any t _ ht).mono ?_
  rintro e w' ⟨rfl,hb⟩
  go_wp2_with fail
  go_ret
  exact ⟨ret_bool HW.out,below_more ((Below.refl _ _).alloc (Nat.le_refl _) _) hb⟩
 ·have hno:r=false:=by
   rw [← hr.out]
   have hn':=HN.out
   have hi':=HI.out
   clear HN HI HNM HNC hr
   simp only [properB]
   rw [hn',hi']
   by_cases hn0:n=0
   ·by_cases hnn:nlen=0
    ·have:0<ilen:=by omega
     simp [hn0,hnn,this]
    ·have:0<nlen:=by omega
     simp [hn0,this]
   ·simp [hn0]
  subst hno
  clear hr
  by_cases hn0:n=0
  ·by_cases hnn:nlen=0
   ·have hi0:0<ilen:=by omega
    clear hok
    go_enter Tryz.func97,Tryz.ntmps97
    go_wp2_with fail
    go_ret
    exact ⟨rfl,(Below.refl _ _).alloc (Nat.le_refl _) _⟩
   ·have hi0:0<nlen:=by omega
    clear hok
    go_enter Tryz.func97,Tryz.ntmps97
    go_wp2_with fail
    go_ret
    exact ⟨rfl,(Below.refl _ _).alloc (Nat.le_refl _) _⟩
  ·clear hok
   go_enter Tryz.func97,Tryz.ntmps97
   go_wp2_with fail
   go_ret
   exact ⟨rfl,(Below.refl _ _).alloc (Nat.le_refl _) _⟩
theorem proper5 (n:Int) (t:ByteArray) (names:List ByteArray) (items:List JV) (vn vi:Value) (w:World) (n0:-9223372036854775808≤n) (n1:n≤9223372036854775807) (_ht:t.size≤maxLen) (hns:StrsAt w vn names) (his:ItemsAt w vi items) (r:Bool) (hr:Hid (properB (.mk 5 n t names items)=r)) :
 Calls Tryz.prog 97 #[.agg #[.int .u8 5,.int .i64 n,.string t,vn,vi]] w fun e w'=>e=.returned (.bool r)∧Below w.heap.size w w':=by
 obtain ⟨an,ncap,rfl,hnl,hnm,hnc⟩:=hns.parts
 obtain ⟨ai,icap,rfl,hil,hic⟩:=his.parts
 clear his hic
 obtain ⟨nlen,hnlen⟩:∃ n,names.length=n:=⟨_,rfl⟩
 obtain ⟨ilen,hilen⟩:∃ n,items.length=n:=⟨_,rfl⟩
 rw [hnlen] at hnl hns ⊢
 rw [hilen] at hil ⊢
 have HN:=Lib.hid hnlen
 have HI:=Lib.hid hilen
 have HNM:=Lib.hid hnm
 have HNC:=Lib.hid hnc
 clear hnlen hilen hnm hnc
 by_cases hok:n=0∧t.toList=[]∧nlen=ilen
 ·obtain ⟨rfl,ht0,rfl⟩:=hok
  have hw:properB (.mk 5 0 t names items)=(ascB names && names.all writ):=by
   have hn':=HN.out
   have hi':=HI.out
   simp_all [properB]
  have HW:=Lib.hid (hw.symm.trans hr.out)
  clear hw hr
  have hneb:((nlen:Int) != (nlen:Int))=false:=by simp
  go_enter Tryz.func97,Tryz.ntmps97
  go_wp2_with fail
  have hb1:Below w.heap.size w (w.alloc (.cells #[.int .u8 5,.int .i64 0,.string t,.slice an nlen ncap,.slice ai nlen icap] 29)):=(Below.refl _ _).alloc (Nat.le_refl _) _
  refine (ascending_any names _ _ (hns.keep hb1)).mono ?_
  rintro e w2 ⟨rfl,hb2⟩
  have hB2:=below_more hb1 hb2
  have hc3:=box_cell hb2 3 _ rfl
  by_cases ha:ascB names=true
  ·have HW2:Hid (names.all writ=r):=by have:=HW.out;rw [ha] at this;simpa [Hid] using this
   clear HW
   go_wp2_with fail
   go_loopw [91] (fun i wr=>∃ k:Nat,k≤nlen∧i=.int .i64 k∧Hid ((names.take k).all writ=true)∧Below w.heap.size w wr) (fun i _=>nlen - (intOf i).toNat)
   case atStart=>exact ⟨0,by omega,rfl,rfl,hB2⟩
   case round =>
    obtain ⟨k,hk,rfl,HA,hBr⟩:=hrel
    by_cases hlt:k<nlen
    ·obtain ⟨s,hs⟩:∃ s,names[k]?=some s:=⟨_,List.getElem?_eq_getElem (by rw [HN.out];exact hlt)⟩
     obtain ⟨b,o,rfl,hcell⟩:=HNC.out k s hs
     have hcr:=cell_keep hBr hcell
     have hss:=HNM.out s (List.mem_of_getElem? hs)
     have HS:=Lib.hid hs
     clear hs hcell
     go_wp2_with fail
     refine (written_any s _ hss).mono ?_
     rintro e w4 ⟨rfl,hb4⟩
     have hB4:=below_more hBr hb4
     by_cases hws:writ s=true
     ·go_wp2_with fail
      refine ⟨?_,by simp [intOf];omega⟩
      first | exact ⟨k+1,by omega,by go_num,all_step HS.out HA.out hws,hB4⟩ | ((repeat apply Exists.intro);exact ⟨⟨k+1,by omega,by go_num,all_step HS.out HA.out hws,hB4⟩,rfl⟩)
     ·have hwf:writ s=false:=by simpa using hws
      have HF:=Lib.hid ((all_no HS.out hwf).symm.trans HW2.out)
      clear hws
      go_wp2_with fail
      go_ret
      exact ⟨ret_bool HF.out,hB4⟩
    ·have hall:names.all writ=true:=by
      have:=HA.out
      rwa [List.take_of_length_le (by rw [HN.out];omega)] at this
     have HF:=Lib.hid (hall.symm.trans HW2.out)
     clear hall
     go_wp2_with fail
     go_ret
     exact ⟨ret_bool HF.out,hBr⟩
  ·have haf:ascB names=false:=by simpa using ha
   have HF:Hid (false=r):=by have:=HW.out;rw [haf] at this;simpa [Hid] using this
   clear ha HW
   go_wp2_with fail
   go_ret
   exact ⟨ret_bool HF.out,hB2⟩
 ·have hno:r=false:=by
   rw [← hr.out]
   have hn':=HN.out
   have hi':=HI.out
   clear HN HI HNM HNC hr
   simp only [properB]
   rw [hn',hi']
   by_cases hn0:n=0
   ·by_cases htt:t.toList=[]
    ·have:¬ nlen=ilen:=fun h=>hok ⟨hn0,htt,h⟩
     simp [hn0,htt,this]
    ·simp [hn0,htt]
   ·simp [hn0]
  subst hno
  clear hr
  by_cases hn0:n=0
  ·by_cases htt:t.toList=[]
   ·have hne:((nlen:Int) != (ilen:Int))=true:=by
     have:¬ nlen=ilen:=fun h=>hok ⟨hn0,htt,h⟩
     rw [bne_iff_ne];omega
    clear hok
    go_enter Tryz.func97,Tryz.ntmps97
    go_wp2_with fail
    go_ret
    exact ⟨rfl,(Below.refl _ _).alloc (Nat.le_refl _) _⟩
   ·have hte:(!t.toList.isEmpty)=true:=by cases h:t.toList <;> simp_all
    clear hok
    go_enter Tryz.func97,Tryz.ntmps97
    go_wp2_with fail
    go_ret
    exact ⟨rfl,(Below.refl _ _).alloc (Nat.le_refl _) _⟩
  ·clear hok
   go_enter Tryz.func97,Tryz.ntmps97
   go_wp2_with fail
   go_ret
   exact ⟨rfl,(Below.refl _ _).alloc (Nat.le_refl _) _⟩
theorem proper_any (V:JV) (v:Value) (w:World) (h:ValAt w V v) :
 Calls Tryz.prog 97 #[v] w fun e w'=>e=.returned (.bool (properB V))∧Below w.heap.size w w':=by
 cases V with
 | mk k n t names items =>
   obtain ⟨vn,vi,rfl,k0,k1,n0,n1,ht,hns,his⟩:=valAt_iff.1 h
   simp only [JV.k,JV.n,JV.t,JV.names,JV.items] at *
   by_cases h1:k=1
   ·subst h1;exact proper1 n t names items vn vi w n0 n1 ht hns his _ rfl
   by_cases h2:k=2
   ·subst h2;exact proper2 n t names items vn vi w n0 n1 ht hns his _ rfl
   by_cases h3:k=3
   ·subst h3;exact proper3 n t names items vn vi w n0 n1 ht hns his _ rfl
   by_cases h4:k=4
   ·subst h4;exact proper4 n t names items vn vi w n0 n1 ht hns his _ rfl
   by_cases h5:k=5
   ·subst h5;exact proper5 n t names items vn vi w n0 n1 ht hns his _ rfl
   exact proper0 k h1 h2 h3 h4 h5 n t names items vn vi w n0 n1 ht hns his _ rfl
end
section
open Go.RowKit
structure But (lb:Nat) (w w':World):Prop where
 os:w'.os=w.os
 tape:w'.tape=w.tape
 output:w'.output=w.output
 size:w.heap.size≤w'.heap.size
 block:∀ k,k<w.heap.size→k≠lb→w'.heap[k]?=w.heap[k]?
theorem But.refl (lb:Nat) (w:World):But lb w w:=⟨rfl,rfl,rfl,Nat.le_refl _,fun _ _ _=>rfl⟩
theorem But.trans {lb:Nat} {a b c:World} (h:But lb a b) (k:But lb b c):But lb a c :=
 ⟨k.os.trans h.os,k.tape.trans h.tape,k.output.trans h.output,Nat.le_trans h.size k.size,fun i hi hn=>(k.block i (Nat.lt_of_lt_of_le hi h.size) hn).trans (h.block i hi hn)⟩
theorem But.of {lb:Nat} {w w':World} (h:Below w.heap.size w w'):But lb w w':=⟨h.os,h.tape,h.output,h.size,fun k hk _=>h.block k hk⟩
theorem But.alloc {lb:Nat} {a w:World} (h:But lb a w) (o:Obj):But lb a (w.alloc o):=h.trans (But.of ((Below.refl _ _).alloc (Nat.le_refl _) o))
theorem But.setCell {lb:Nat} {a w:World} (h:But lb a w) (v:Value):But lb a (w.setCell ⟨lb,0,none⟩ v) :=
 h.trans ⟨rfl,rfl,rfl,by simp [World.setCell],fun k _ hk=>Below.heap_setCell _ _ _ _ hk⟩
theorem But.below {lb:Nat} {w0 w w':World} (h:But lb w w') (hb:Below w0.heap.size w0 w) (hl:w0.heap.size≤lb):Below w0.heap.size w0 w' :=
 ⟨h.os.trans hb.os,h.tape.trans hb.tape,h.output.trans hb.output,Nat.le_trans hb.size h.size,fun k hk=>(h.block k (Nat.lt_of_lt_of_le hk hb.size) (by omega)).trans (hb.block k hk)⟩
def One (w:World) (lb:Nat) (l:Int):Prop:=w.heap[lb]?=some (.cells #[.int .i64 l] 3 (0,0))
theorem One.lt {w:World} {lb:Nat} {l:Int} (h:One w lb l):lb<w.heap.size:=(Array.getElem?_eq_some_iff.1 h).1
theorem One.cell {w:World} {lb:Nat} {l:Int} (h:One w lb l):w.cell? ⟨lb,0,none⟩=some (.int .i64 l):=by
 unfold World.cell?;rw [show w.heap[lb]?=_ from h];rfl
theorem One.free {w:World} {lb:Nat} {l:Int} (h:One w lb l):w.frozen? ⟨lb,0,none⟩=false:=Lib.frozen_of_heap h 0
theorem One.set {w:World} {lb:Nat} {l:Int} (h:One w lb l) (l':Int):One (w.setCell ⟨lb,0,none⟩ (.int .i64 l')) lb l':=by
 unfold One at *
 simp [World.setCell,Array.getElem?_modify,h]
theorem One.keep {w w':World} {lb:Nat} {l:Int} (h:One w lb l) (hb:Below w.heap.size w w'):One w' lb l:=by
 unfold One at *;rw [hb.block lb (One.lt h)];exact h
theorem One.alloc {w:World} {lb:Nat} {l:Int} (h:One w lb l) (o:Obj):One (w.alloc o) lb l:=h.keep ((Below.refl _ _).alloc (Nat.le_refl _) o)
mutual
def mayV:JV→Nat→Int→Bool × Int
 | .mk k n t names items,d,l =>
   if l - 1<0∨properB (.mk k n t names items)=false then (false,l - 1)
   else if k≠4∧k≠5 then (true,l - 1)
   else if d=0 then (false,l - 1)
   else mayL items (d - 1) (l - 1)
def mayL:List JV→Nat→Int→Bool × Int
 | [],_,l=>(true,l)
 | x :: r,d,l=>if (mayV x d l).1=true then mayL r d (mayV x d l).2 else (false,(mayV x d l).2)
end
mutual
theorem mayV_bd:∀ (V:JV) (d:Nat) (l:Int),0≤l→l≤8192→-1≤(mayV V d l).2∧(mayV V d l).2≤8192∧((mayV V d l).1=true→0≤(mayV V d l).2)
 | .mk k n t names items,d,l,h0,h1=>by
   rw [mayV]
   split
   ·exact ⟨by simp only [];omega,by simp only [];omega,fun h=>by cases h⟩
   ·rename_i hn
    split
    ·exact ⟨by simp only [];omega,by simp only [];omega,fun _=>by simp only [];omega⟩
    ·split
     ·exact ⟨by simp only [];omega,by simp only [];omega,fun h=>by cases h⟩
     ·exact mayL_bd items (d - 1) (l - 1) (by omega) (by omega)
theorem mayL_bd:∀ (items:List JV) (d:Nat) (l:Int),0≤l→l≤8192→-1≤(mayL items d l).2∧(mayL items d l).2≤8192∧((mayL items d l).1=true→0≤(mayL items d l).2)
 | [],d,l,h0,h1=>by rw [mayL];exact ⟨by simp only [];omega,h1,fun _=>h0⟩
 | x :: r,d,l,h0,h1=>by
   rw [mayL]
   have hx:=mayV_bd x d l h0 h1
   split
   ·rename_i hy
    exact mayL_bd r d _ (hx.2.2 hy) hx.2.1
   ·exact ⟨hx.1,hx.2.1,fun h=>by cases h⟩
end
theorem mayV_eq (V:JV) (d:Nat) (l:Int):mayV V d l=if l - 1<0∨properB V=false then (false,l - 1) else if V.k≠4∧V.k≠5 then (true,l - 1) else if d=0 then (false,l - 1) else mayL V.items (d - 1) (l - 1):=by
 cases V with
 | mk k n t names items=>rw [mayV];rfl
theorem mayL_step {items:List JV} {j:Nat} {x:JV} (h:items[j]?=some x) (d:Nat) (l:Int):mayL (items.drop j) d l=if (mayV x d l).1=true then mayL (items.drop (j+1)) d (mayV x d l).2 else (false,(mayV x d l).2):=by
 obtain ⟨hj,hx⟩:=List.getElem?_eq_some_iff.1 h
 rw [List.drop_eq_getElem_cons hj,hx,mayL]
theorem setCell_size (w:World) (a:Addr) (v:Value):(w.setCell a v).heap.size=w.heap.size:=by simp [World.setCell]
theorem may_any (N:Nat):∀ (V:JV) (v:Value) (d l:Int) (lb:Nat) (w0 w:World),SizeOf.sizeOf V<N→ValAt w0 V v→Below w0.heap.size w0 w→w0.heap.size≤lb→0≤d→d≤12→0≤l→l≤8192→One w lb l →
 Calls Tryz.prog 66 #[v,.int .i64 d,.pointer (some ⟨lb,0,none⟩)] w fun e w'=>e=.returned (.bool (mayV V d.toNat l).1)∧One w' lb (mayV V d.toNat l).2∧But lb w w':=by
 induction N with
 | zero=>intro V v d l lb w0 w h;omega
 | succ N ih =>
   intro V v d l lb w0 w hN hV hB hlb hd0 hd hl0 hl1 hone
   have HI:=Lib.hid ih
   clear ih
   obtain ⟨r,l',hr⟩:∃ r l',mayV V d.toNat l=(r,l'):=⟨_,_,rfl⟩
   rw [hr]
   have HR:=Lib.hid (hr.symm.trans (mayV_eq V d.toNat l))
   clear hr
   have HV:=Lib.hid hV
   obtain ⟨vn,vi,rfl,k0,k1,n0,n1,ht,hns,his⟩:=valAt_iff.1 hV
   obtain ⟨ai,icap,rfl,hil,hic⟩:=his.parts
   obtain ⟨an,ncap,rfl,-,-,-⟩:=hns.parts
   have HIC:=Lib.hid hic
   clear hic his hns hV
   have hc:=hone.cell
   have hf:=hone.free
   have hlt:=hone.lt
   obtain ⟨ilen,hilen⟩:∃ n,V.items.length=n:=⟨_,rfl⟩
   rw [hilen] at hil HV ⊢
   have HL:=Lib.hid hilen
   clear hilen
   have HO:=Lib.hid hone
   clear hone
   have hO1:=(HO.out.set (l - 1)).alloc (.cells #[.int .u8 V.k,.int .i64 V.n,.string V.t,.slice an V.names.length ncap,.slice ai ilen icap] 29)
   have hU1:=((But.refl lb w).setCell (.int .i64 (l - 1))).alloc (.cells #[.int .u8 V.k,.int .i64 V.n,.string V.t,.slice an V.names.length ncap,.slice ai ilen icap] 29)
   by_cases hl:l<1
   ·have e:=HR.out
    rw [if_pos (Or.inl (by omega))] at e
    simp only [Prod.mk.injEq] at e
    obtain ⟨rfl,rfl⟩:=e
    clear HR HI HIC
    go_enter Tryz.func66,Tryz.ntmps66
    go_wp2_with fail
    go_ret
    exact ⟨rfl,hO1,hU1⟩
   ·go_enter Tryz.func66,Tryz.ntmps66
    go_wp2_with fail
    have hB1:=hU1.below hB hlb
    refine (proper_any V _ _ (HV.out.keep hB1)).mono ?_
    rintro e w2 ⟨rfl,hb2⟩
    have hc0:=box_cell hb2 0 _ rfl
    have hc4:=box_cell hb2 4 _ rfl
    rw [setCell_size] at hc0 hc4
    have hO2:=hO1.keep hb2
    have hU2:=hU1.trans (But.of hb2)
    clear hO1 hU1 hb2 hc hf
    by_cases hp:properB V=true
    ·by_cases hk:V.k=4∨V.k=5
     ·by_cases hdz:d=0
      ·have e:=HR.out
       rw [if_neg (by simp [hp];omega),if_neg (by omega),if_pos (by omega)] at e
       simp only [Prod.mk.injEq] at e
       obtain ⟨rfl,rfl⟩:=e
       have hdb:(d == 0)=true:=by rw [hdz];rfl
       have hkk:((V.k != 4)=false)∨((V.k != 4)=true∧(V.k != 5)=false):=by
        rcases hk with h | h
        ·left;simp [h]
        ·right;simp [h]
       clear HR HI HIC hk hdz
       rcases hkk with h4 | ⟨h4,h5⟩
       all_goals
        go_wp2_with fail
        go_ret
        exact ⟨rfl,hO2,hU2⟩
      ·have e:=HR.out
       rw [if_neg (by simp [hp];omega),if_neg (by omega),if_neg (by omega)] at e
       have HE:=Lib.hid e
       have hdb:(d == 0)=false:=beq_eq_false_iff_ne.2 hdz
       have hkk:((V.k != 4)=false)∨((V.k != 4)=true∧(V.k != 5)=false):=by
        rcases hk with h | h
        ·left;simp [h]
        ·right;simp [h]
       have hd1:1≤d:=by omega
       clear HR hk hdz e
       rcases hkk with h4 | ⟨h4,h5⟩
       all_goals
        go_wp2_with fail
        go_loopw [36] (fun i wr=>∃ (j:Nat) (lj:Int),j≤ilen∧i=.int .i64 j∧0≤lj∧lj≤8192∧One wr lb lj∧But lb w wr∧Hid ((r,l')=mayL (V.items.drop j) (d.toNat - 1) lj)) (fun i _=>ilen - (intOf i).toNat)
        case atStart=>exact ⟨0,l - 1,by omega,rfl,by omega,by omega,hO2,hU2,HE.out⟩
        case round =>
         obtain ⟨j,lj,hj,rfl,q0,q1,hOr,hUr,HM⟩:=hrel
         by_cases hjl:j<ilen
         ·obtain ⟨x,hx⟩:∃ x,V.items[j]?=some x:=⟨_,List.getElem?_eq_getElem (by rw [HL.out];exact hjl)⟩
          obtain ⟨b,o,xn,xi,rfl,c0,c1,c2,c3,c4,a0,a1,a2,a3,a4,a5,a6⟩:=HIC.out j x hx
          have hBr:=hUr.below hB hlb
          have hvx:ValAt w0 x (.agg #[.int .u8 x.k,.int .i64 x.n,.string x.t,xn,xi]):=valAt_iff.2 ⟨_,_,rfl,a0,a1,a2,a3,a4,a5,a6⟩
          have hsx:SizeOf.sizeOf x<N:=by
           have:=JV.size_item (List.mem_of_getElem? hx)
           omega
          obtain ⟨xan,xncap,rfl,-,-,-⟩:=a5.parts
          obtain ⟨xai,xicap,rfl,-,-⟩:=a6.parts
          obtain ⟨r2,l2,hr2⟩:∃ r2 l2,mayV x (d.toNat - 1) lj=(r2,l2):=⟨_,_,rfl⟩
          have hst:=HM.out.trans (mayL_step hx (d.toNat - 1) lj)
          have hbd:=mayV_bd x (d.toNat - 1) lj q0 q1
          rw [hr2] at hst hbd
          have HST:=Lib.hid hst
          have HBD:=Lib.hid hbd
          have HR2:=Lib.hid hr2
          have e0:=cell_keep hBr c0
          have e1:=cell_keep hBr c1
          have e2:=cell_keep hBr c2
          have e3:=cell_keep hBr c3
          have e4:=cell_keep hBr c4
          clear hst hbd hr2 c0 c1 c2 c3 c4 a5 a6 hx HM
          have hdt:(d - 1).toNat=d.toNat - 1:=by omega
          have HDT:=Lib.hid hdt
          clear hdt
          go_wp2_with fail
          have hO3:=hOr.alloc (.cells #[.int .u8 x.k,.int .i64 x.n,.string x.t,.slice xan x.names.length xncap,.slice xai x.items.length xicap] 29)
          have hU3:=hUr.alloc (.cells #[.int .u8 x.k,.int .i64 x.n,.string x.t,.slice xan x.names.length xncap,.slice xai x.items.length xicap] 29)
          refine (HI.out x _ (d - 1) lj lb w0 _ hsx hvx (hU3.below hB hlb) hlb (by omega) (by omega) q0 q1 hO3).mono ?_
          rintro e w4 ⟨rfl,hO4,hb4⟩
          rw [HDT.out,HR2.out] at hO4 ⊢
          have hU4:=hU3.trans hb4
          obtain ⟨bd1,bd2,bd3⟩:=HBD.out
          clear hO3 hU3 hb4
          cases r2 with
          | true =>
            have bd4:0≤l2:=bd3 rfl
            have hst2:(r,l')=mayL (V.items.drop (j+1)) (d.toNat - 1) l2:=by have:=HST.out;simpa using this
            have HS2:=Lib.hid hst2
            clear hst2 HST bd3
            go_wp2_with fail
            refine ⟨?_,by simp [intOf];omega⟩
            first | exact ⟨j+1,l2,by omega,by go_num,bd4,bd2,hO4,hU4,HS2.out⟩ | ((repeat apply Exists.intro);exact ⟨⟨j+1,l2,by omega,by go_num,bd4,bd2,hO4,hU4,HS2.out⟩,rfl⟩)
          | false =>
            have hst2:(r,l')=(false,l2):=by have:=HST.out;simpa using this
            simp only [Prod.mk.injEq] at hst2
            obtain ⟨rfl,rfl⟩:=hst2
            clear HST HE
            go_wp2_with fail
            go_ret
            exact ⟨rfl,hO4,hU4⟩
         ·have e:=HM.out
          rw [List.drop_eq_nil_of_le (by rw [HL.out];omega),mayL] at e
          simp only [Prod.mk.injEq] at e
          obtain ⟨rfl,rfl⟩:=e
          go_wp2_with fail
          go_ret
          exact ⟨rfl,hOr,hUr⟩
     ·have e:=HR.out
      rw [if_neg (by simp [hp];omega),if_pos (by omega)] at e
      simp only [Prod.mk.injEq] at e
      obtain ⟨rfl,rfl⟩:=e
      have h4:(V.k != 4)=true:=by rw [bne_iff_ne];omega
      have h5:(V.k != 5)=true:=by rw [bne_iff_ne];omega
      clear HR HI HIC hk
      go_wp2_with fail
      go_ret
      exact ⟨rfl,hO2,hU2⟩
    ·have hpf:properB V=false:=by simpa using hp
     have e:=HR.out
     rw [if_pos (Or.inr hpf)] at e
     simp only [Prod.mk.injEq] at e
     obtain ⟨rfl,rfl⟩:=e
     clear HR HI HIC hp
     go_wp2_with fail
     go_ret
     exact ⟨rfl,hO2,hU2⟩
def mayB (V:JV):Bool:=(mayV V 12 8192).1
theorem May_any (V:JV) (v:Value) (w:World) (h:ValAt w V v) :
 Calls Tryz.prog 36 #[v] w fun e w'=>e=.returned (.bool (mayB V))∧Below w.heap.size w w':=by
 obtain ⟨vn,vi,hv,k0,k1,n0,n1,ht,hns,his⟩:=valAt_iff.1 h
 obtain ⟨ai,icap,rfl,-,-⟩:=his.parts
 obtain ⟨an,ncap,rfl,-,-,-⟩:=hns.parts
 subst hv
 go_enter Tryz.func36,Tryz.ntmps36
 go_wp2_with fail
 have hB:Below w.heap.size w ((w.alloc (.cells #[.int .u8 V.k,.int .i64 V.n,.string V.t,.slice an V.names.length ncap,.slice ai V.items.length icap] 29)).alloc (.cells #[.int .i64 8192] 3)):=((Below.refl _ _).alloc (Nat.le_refl _) _).alloc (by simp) _
 have hO:One ((w.alloc (.cells #[.int .u8 V.k,.int .i64 V.n,.string V.t,.slice an V.names.length ncap,.slice ai V.items.length icap] 29)).alloc (.cells #[.int .i64 8192] 3)) (w.heap.size+1) 8192:=by
  unfold One
  show ((w.heap.push _).push _)[w.heap.size+1]?=_
  rw [Array.getElem?_push,if_pos (by simp)]
 refine (may_any _ V _ 12 8192 (w.heap.size+1) w _ (Nat.lt_succ_self _) h hB (by omega) (by omega) (by omega) (by omega) (by omega) hO).mono ?_
 rintro e w2 ⟨rfl,hO2,hU⟩
 go_wp2_with fail
 go_ret
 exact ⟨rfl,hU.below hB (by omega)⟩
end
section
open Go.RowKit
def escB (c:UInt8):List UInt8:=if c.toNat=34∨c.toNat=92 then [92,c] else [c]
def escL (l:List UInt8):List UInt8:=l.flatMap escB
def quoteL (l:List UInt8):List UInt8:=34 :: (escL l++[34])
end
section
open Go.RowKit
def joinC:List (List UInt8)→List UInt8
 | []=>[]
 | [x]=>x
 | x :: y :: r=>x++44 :: joinC (y :: r)
mutual
def formV:JV→List UInt8
 | .mk k n t names items =>
   if k=1 then (if n=1 then [116,114,117,101] else [102,97,108,115,101])
   else if k=2 then Lib.itoa n
   else if k=3 then quoteL t.data.toList
   else if k=4 then 91 :: (joinC (formVs items)++[93])
   else if k=5 then 123 :: (joinC ((names.zip (formVs items)).map fun p=>quoteL p.1.data.toList++58 :: p.2)++[125])
   else []
def formVs:List JV→List (List UInt8)
 | []=>[]
 | x :: r=>formV x :: formVs r
end
mutual
def goodV:JV→Bool
 | .mk k n t names items=>properB (.mk k n t names items) && (if k=4∨k=5 then goodVs items else true)
def goodVs:List JV→Bool
 | []=>true
 | x :: r=>goodV x && goodVs r
end
theorem goodV_eq (V:JV):goodV V=(properB V && (if V.k=4∨V.k=5 then goodVs V.items else true)):=by cases V;rw [goodV];rfl
theorem goodVs_mem:∀ {l:List JV},goodVs l=true→∀ x ∈ l,goodV x=true
 | y :: r,h,x,hx=>by
   rw [goodVs,Bool.and_eq_true] at h
   rcases List.mem_cons.1 hx with rfl | hx
   ·exact h.1
   ·exact goodVs_mem h.2 x hx
theorem proper_obj {V:JV} (h:properB V=true) (hk:V.k=5):V.names.length=V.items.length∧ascB V.names=true∧V.names.all writ=true:=by
 cases V with
 | mk k n t names items =>
   have hk5:k=5:=hk
   subst hk5
   show names.length=items.length∧ascB names=true∧names.all writ=true
   rw [properB] at h
   split at h
   ·cases h
   ·split at h
    ·cases h
    ·simp only at h
     simpa [and_assoc] using h
end
end

section
open Go.RowKit
theorem bytes_ext {a b:ByteArray} (h:a.data.toList=b.data.toList):a=b:=by
 rw [bytes_back a,bytes_back b,h]
theorem proper_parts {V:JV} (h:properB V=true):(V.k=1∧(V.n=0∨V.n=1)∧V.t.data.toList=[]∧V.names=[]∧V.items=[])∨(V.k=2∧V.t.data.toList=[]∧V.names=[]∧V.items=[]) ∨
 (V.k=3∧V.n=0∧V.names=[]∧V.items=[])∨(V.k=4∧V.n=0∧V.t.data.toList=[]∧V.names=[])∨(V.k=5∧V.n=0∧V.t.data.toList=[]∧V.names.length=V.items.length):=by
 cases V with
 | mk k n t names items =>
   simp only [JV.k,JV.n,JV.t,JV.names,JV.items]
   rw [properB] at h
   split at h
   ·cases h
   ·rename_i h1
    split at h
    ·cases h
    ·rename_i h2
     have e1:k=1∨k=2∨n=0:=by omega
     have e2:k=3∨t.data.toList=[]:=by
      by_cases hk:k=3
      ·exact Or.inl hk
      ·refine Or.inr (Classical.byContradiction fun hh=>h1 (Or.inr ⟨hk,?_⟩))
       rw [toList_data];exact hh
     have e3:k=5∨names=[]:=by
      by_cases hk:k=5
      ·exact Or.inl hk
      ·exact Or.inr (List.length_eq_zero_iff.1 (by omega))
     have e4:k=5∨k=4∨items=[]:=by
      by_cases hk:k=5∨k=4
      ·rcases hk with hk | hk
       ·exact Or.inl hk
       ·exact Or.inr (Or.inl hk)
      ·exact Or.inr (Or.inr (List.length_eq_zero_iff.1 (by omega)))
     split at h
     ·rename_i hk
      subst hk
      refine Or.inl ⟨rfl,by simpa using h,?_,?_,?_⟩
      ·rcases e2 with e | e;omega;exact e
      ·rcases e3 with e | e;omega;exact e
      ·rcases e4 with e | e | e;omega;omega;exact e
     ·split at h
      ·rename_i hk
       rcases hk with rfl | rfl
       ·refine Or.inr (Or.inl ⟨rfl,?_,?_,?_⟩)
        ·rcases e2 with e | e;omega;exact e
        ·rcases e3 with e | e;omega;exact e
        ·rcases e4 with e | e | e;omega;omega;exact e
       ·refine Or.inr (Or.inr (Or.inr (Or.inl ⟨rfl,by omega,?_,?_⟩)))
        ·rcases e2 with e | e;omega;exact e
        ·rcases e3 with e | e;omega;exact e
      ·split at h
       ·rename_i hk
        subst hk
        refine Or.inr (Or.inr (Or.inl ⟨rfl,by omega,?_,?_⟩))
        ·rcases e3 with e | e;omega;exact e
        ·rcases e4 with e | e | e;omega;omega;exact e
       ·split at h
        ·rename_i hk
         subst hk
         simp only [Bool.and_eq_true,decide_eq_true_eq] at h
         refine Or.inr (Or.inr (Or.inr (Or.inr ⟨rfl,by omega,?_,h.1.1⟩)))
         rcases e2 with e | e;omega;exact e
        ·cases h
theorem good_items {V:JV} (h:goodV V=true) (hk:V.k=4∨V.k=5):goodVs V.items=true:=by
 rw [goodV_eq,Bool.and_eq_true,if_pos hk] at h;exact h.2
/-! Which values may be: by their parts, how many there are, and how deep. -/
mutual
def countV:JV→Nat
 | .mk _ _ _ _ items=>1+countL items
def countL:List JV→Nat
 | []=>0
 | x :: r=>countV x+countL r
end
mutual
def depthV:JV→Nat
 | .mk k _ _ _ items=>if k=4∨k=5 then depthL items+1 else 0
def depthL:List JV→Nat
 | []=>0
 | x :: r=>max (depthV x) (depthL r)
end
theorem countV_eq (V:JV):countV V=1+countL V.items:=by cases V;rw [countV];rfl
theorem depthV_eq (V:JV):depthV V=if V.k=4∨V.k=5 then depthL V.items+1 else 0:=by cases V;rw [depthV];rfl
theorem proper_leaf {V:JV} (h:properB V=true) (h4:V.k≠4) (h5:V.k≠5):V.items=[]:=by
 rcases proper_parts h with ⟨hk,_,_,_,e⟩ | ⟨hk,_,_,e⟩ | ⟨hk,_,_,e⟩ | ⟨hk,_⟩ | ⟨hk,_⟩
 ·exact e
 ·exact e
 ·exact e
 ·exact absurd hk h4
 ·exact absurd hk h5
mutual
theorem mayV_iff:∀ (V:JV) (d:Nat) (l:Int),((mayV V d l).1=true↔goodV V=true∧depthV V≤d∧(countV V:Int)≤l)∧((mayV V d l).1=true→(mayV V d l).2=l - countV V)
 | .mk k n t names items,d,l=>by
   rw [mayV,goodV_eq,depthV_eq,countV_eq]
   simp only [JV.k,JV.items]
   by_cases h1:l - 1<0
   ·rw [if_pos (Or.inl h1)]
    refine ⟨⟨(fun h=>by cases h),fun ⟨_,_,h⟩=>by omega⟩,(fun h=>by cases h)⟩
   ·by_cases hp:properB (.mk k n t names items)=true
    ·rw [if_neg (by simp [hp];omega)]
     by_cases hk:k≠4∧k≠5
     ·rw [if_pos hk]
      simp only [show ¬ (k=4∨k=5) from by omega,if_false]
      have hi:items=[]:=proper_leaf hp hk.1 hk.2
      subst hi
      simp only [hp,countL,Bool.and_true]
      refine ⟨⟨fun _=>⟨trivial,by omega,by omega⟩,fun _=>trivial⟩,fun _=>by omega⟩
     ·rw [if_neg hk]
      simp only [show (k=4∨k=5) from by omega,if_true]
      by_cases hd:d=0
      ·rw [if_pos hd]
       exact ⟨⟨(fun h=>by cases h),fun ⟨_,h,_⟩=>by omega⟩,(fun h=>by cases h)⟩
      ·rw [if_neg hd]
       obtain ⟨i1,i2⟩:=mayL_iff items (d - 1) (l - 1) (by omega)
       rw [hp,Bool.true_and]
       refine ⟨⟨fun h=>?_,fun ⟨a,b,c⟩=>i1.2 ⟨a,by omega,by omega⟩⟩,fun h=>?_⟩
       ·obtain ⟨a,b,c⟩:=i1.1 h
        exact ⟨a,by omega,by omega⟩
       ·rw [i2 h];omega
    ·rw [if_pos (Or.inr (by simpa using hp))]
     refine ⟨⟨(fun h=>by cases h),fun ⟨h,_⟩=>?_⟩,(fun h=>by cases h)⟩
     rw [Bool.and_eq_true] at h
     exact absurd h.1 hp
theorem mayL_iff:∀ (items:List JV) (d:Nat) (l:Int),0≤l→((mayL items d l).1=true↔goodVs items=true∧depthL items≤d∧(countL items:Int)≤l)∧((mayL items d l).1=true→(mayL items d l).2=l - countL items)
 | [],d,l,h0=>by
   rw [mayL,goodVs,depthL,countL]
   exact ⟨⟨fun _=>⟨rfl,by omega,by omega⟩,fun _=>rfl⟩,fun _=>by simp⟩
 | x :: r,d,l,h0=>by
   rw [mayL,goodVs,depthL,countL]
   obtain ⟨x1,x2⟩:=mayV_iff x d l
   by_cases hx:(mayV x d l).1=true
   ·rw [if_pos hx]
    have e:=x2 hx
    obtain ⟨a1,a2,a3⟩:=x1.1 hx
    obtain ⟨r1,r2⟩:=mayL_iff r d (mayV x d l).2 (by rw [e];omega)
    rw [a1,Bool.true_and]
    refine ⟨⟨fun h=>?_,fun ⟨b1,b2,b3⟩=>r1.2 ⟨b1,by omega,by omega⟩⟩,fun h=>?_⟩
    ·obtain ⟨b1,b2,b3⟩:=r1.1 h
     exact ⟨b1,by omega,by omega⟩
    ·rw [r2 h,e];omega
   ·rw [if_neg hx]
    refine ⟨⟨(fun h=>by cases h),fun ⟨h,h2,h3⟩=>?_⟩,(fun h=>by cases h)⟩
    rw [Bool.and_eq_true] at h
    exact absurd (x1.2 ⟨h.1,by omega,by omega⟩) hx
end
theorem mayB_iff (V:JV):mayB V=true↔goodV V=true∧depthV V≤12∧countV V≤8192:=by
 unfold mayB
 rw [(mayV_iff V 12 8192).1]
 constructor
 ·rintro ⟨a,b,c⟩;exact ⟨a,b,by omega⟩
 ·rintro ⟨a,b,c⟩;exact ⟨a,b,by omega⟩
theorem countL_mem:∀ {l:List JV} {x:JV},x ∈ l→countV x≤countL l
 | y :: r,x,h=>by
   rw [countL]
   rcases List.mem_cons.1 h with rfl | h
   ·omega
   ·have:=countL_mem h;omega
theorem depthL_mem:∀ {l:List JV} {x:JV},x ∈ l→depthV x≤depthL l
 | y :: r,x,h=>by
   rw [depthL]
   rcases List.mem_cons.1 h with rfl | h
   ·omega
   ·have:=depthL_mem h;omega
theorem may_item {V x:JV} (h:mayB V=true) (hk:V.k=4∨V.k=5) (hx:x ∈ V.items):mayB x=true:=by
 obtain ⟨a,b,c⟩:=(mayB_iff V).1 h
 rw [countV_eq] at c
 rw [depthV_eq,if_pos hk] at b
 have h1:=countL_mem hx
 have h2:=depthL_mem hx
 exact (mayB_iff x).2 ⟨goodVs_mem (good_items a hk) x hx,by omega,by omega⟩
end

section
open Go.RowKit
def getN:List ByteArray→List JV→ByteArray→Option JV
 | s :: ns,x :: xs,n=>if s.data.toList=n.data.toList then some x else getN ns xs n
 | [],_,_=>none
 | _ :: _,[],_=>none
def getV (V:JV) (n:ByteArray):Option JV:=if V.k=5 then getN V.names V.items n else none
inductive PS where
 | bad (e:Int)
 | ok (A:List ByteArray)
def zJ:JV:=.mk 0 0 ⟨#[]⟩ [] []
def takeQ (V:JV) (n:ByteArray) (k:Int):PS→Option JV × PS
 | .bad e=>(none,.bad e)
 | .ok A=>match getN V.names V.items n with
   | none=>(none,.bad 6)
   | some x=>if x.k=k then (some x,.ok (A++[n])) else (none,.bad 10)
def textQ (V:JV) (n:ByteArray) (s:PS):ByteArray × PS :=
 match takeQ V n 3 s with
 | (none,s)=>(⟨#[]⟩,s)
 | (some x,s)=>(x.t,s)
def listQ (V:JV) (n:ByteArray) (most:Nat) (s:PS):List JV × PS :=
 match takeQ V n 4 s with
 | (none,s)=>([],s)
 | (some x,s)=>if most<x.items.length then ([],.bad 5) else (x.items,s)
def objQ (V:JV) (n:ByteArray) (most:Nat) (s:PS):JV × PS :=
 match takeQ V n 5 s with
 | (none,s)=>(zJ,s)
 | (some x,s)=>if most<x.items.length then (zJ,.bad 5) else (x,s)
def failQ (e:Int):PS→PS
 | .bad e'=>.bad e'
 | .ok A=>if e=0 then .ok A else .bad e
def allAsked (V:JV) (A:List ByteArray):Bool:=V.names.all fun s=>A.any fun a=>a.data.toList == s.data.toList
def doneQ (V:JV):PS→Int
 | .bad e=>e
 | .ok A=>if allAsked V A=true then 0 else 11
def pickQ (V:JV):PS:=if V.k=5 then .ok [] else .bad 10
inductive PQ (α:Type) where
 | bad (e:Int)
 | ok (x:α)
theorem getN_mem:∀ {ns:List ByteArray} {xs:List JV} {n:ByteArray} {x:JV},getN ns xs n=some x→x ∈ xs
 | [],_,_,_,h=>by simp [getN] at h
 | _ :: _,[],_,_,h=>by simp [getN] at h
 | s :: ns,y :: xs,n,x,h=>by
   rw [getN] at h
   by_cases e:s.data.toList=n.data.toList
   ·rw [if_pos e] at h
    cases h
    exact List.mem_cons_self
   ·rw [if_neg e] at h
    exact List.mem_cons_of_mem _ (getN_mem h)
theorem getN_at:∀ {ns:List ByteArray} {xs:List JV} {n:ByteArray} {i:Nat},ns.length=xs.length→(∀ j s,j<i→ns[j]?=some s→s.data.toList≠n.data.toList)→(∀ s,ns[i]?=some s→s.data.toList=n.data.toList)→getN ns xs n=if i<ns.length then xs[i]? else none
 | [],xs,n,i,_,_,_=>by simp [getN]
 | s :: ns,y :: xs,n,0,hl,_,h=>by
   rw [getN,if_pos (h s rfl)]
   simp
 | s :: ns,y :: xs,n,i+1,hl,h1,h2=>by
   have hne:=h1 0 s (by omega) rfl
   rw [getN,if_neg hne,getN_at (i:=i) (by simpa using hl) (fun j t hj ht=>h1 (j+1) t (by omega) (by simpa using ht)) (fun t ht=>h2 t (by simpa using ht))]
   simp
 | _ :: _,[],_,_,hl,_,_=>by simp at hl
end
end Go.Proofs.YtchinankclckjaaGreatDoor
