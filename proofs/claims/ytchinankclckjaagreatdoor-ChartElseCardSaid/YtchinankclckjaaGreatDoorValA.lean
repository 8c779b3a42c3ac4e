/-
  The plain mathematics of numbers' texts: which texts are of the form, the number of each, and that strconv's own functions (as the library's contracts tell them) agree with them. No program in this text. Small facts on strings, for the walks: what a piece of a string reads as; that the tables of the library stay as they are while a call makes memory of its own. num.formed, and the document's Form: whether a text is of the form of a number.
  Values of JSON as a tree, and how such a tree lies in memory. How much values have (the laws' own guard): legatelaw08.size and Long. Values that a call lays out in memory itself: cells of new blocks, and what they read as.
-/
import Derived.Lib.ParseIntB
import Derived.Lib.ItoaNum
import Derived.Test.YtchinankclckjaaGreatDoorRows
import Derived.WalkKit
import Derived.WalkSpells
import Derived.WalkLawsBesides
import Derived.Lib.IndexBytes
import Derived.Lib.Hide
import Derived.Lib.LaidTab
import Derived.Sort.Grow
namespace Go.Proofs.YtchinankclckjaaGreatDoor
set_option maxHeartbeats 2000000
section
section
open Go.Lib (decDigits itoa parseUintM parseUintB parseIntB NumEnd)
namespace Nm
def dg (c:UInt8):Bool:=decide (48≤c.toNat) && decide (c.toNat≤57)
def isN (c:UInt8):Bool:=dg c || c.toNat == 45 || c.toNat == 43 || c.toNat == 46 || c.toNat == 101 || c.toNat == 69
def body (t:List UInt8):List UInt8:=if t.head?.map (·.toNat)=some 45 then t.tail else t
def form (t:List UInt8):Bool:=decide (t=[48]) || (decide (body t≠[]) && decide ((body t).head?.map (·.toNat)≠some 48) && (body t).all dg)
def dv (acc:Nat) (l:List UInt8):Nat:=l.foldl (fun a c=>a*10+(c.toNat - 48)) acc
def val (t:List UInt8):Int:=if t.head?.map (·.toNat)=some 45 then -(dv 0 t.tail:Int) else dv 0 t
def run (l:List UInt8) (at_:Nat):List UInt8:=(l.drop at_).takeWhile isN
theorem dg_iff (c:UInt8):dg c=true↔48≤c.toNat∧c.toNat≤57:=by simp [dg]
theorem dv_le:∀ (l:List UInt8) (a:Nat),a≤dv a l
 | [],a=>Nat.le_refl _
 | c :: r,a=>by
   have:=dv_le r (a*10+(c.toNat - 48))
   show a≤dv (a*10+(c.toNat - 48)) r
   omega
theorem parse_digits (M:Nat) (hM:M=18446744073709551615):∀ (l:List UInt8) (a:Nat),a≤M→l.all dg=true→parseUintM M a l=if dv a l≤M then .ok (dv a l) else .range
 | [],a,ha,_=>by simp [parseUintM,dv,ha]
 | c :: r,a,ha,h=>by
   simp only [List.all_cons,Bool.and_eq_true] at h
   obtain ⟨hc,hr⟩:=h
   have hc':=(dg_iff c).1 hc
   have hle:=dv_le r (a*10+(c.toNat - 48))
   have hd:dv a (c :: r)=dv (a*10+(c.toNat - 48)) r:=rfl
   rw [parseUintM,if_pos hc',hd]
   by_cases h1:1844674407370955162≤a
   ·rw [if_pos h1,if_neg (by omega)]
   ·rw [if_neg h1]
    by_cases h2:M<a*10+(c.toNat - 48)
    ·rw [if_pos h2,if_neg (by omega)]
    ·rw [if_neg h2]
     exact parse_digits M hM r _ (by omega) hr
theorem body_neg {t:List UInt8} (h:t.head?.map (·.toNat)=some 45):body t=t.tail:=by simp [body,h]
theorem body_pos {t:List UInt8} (h:¬ t.head?.map (·.toNat)=some 45):body t=t:=by simp [body,h]
theorem form_parts {t:List UInt8} (h:form t=true):body t≠[]∧(body t).all dg=true∧(t=[48]∨(body t).head?.map (·.toNat)≠some 48):=by
 simp only [form,Bool.or_eq_true,Bool.and_eq_true,decide_eq_true_eq] at h
 rcases h with h | ⟨⟨h1,h2⟩,h3⟩
 ·subst h;exact ⟨by decide,by decide,Or.inl rfl⟩
 ·exact ⟨h1,h3,Or.inr h2⟩
theorem parse_form {t:List UInt8} (h:form t=true):parseIntB 64 t=if -9223372036854775808≤val t∧val t≤9223372036854775807 then .ok (val t) else .range:=by
 obtain ⟨h1,h2,_⟩:=form_parts h
 match t,h1,h2 with
 | [],h1,_=>exact absurd rfl h1
 | c :: r,h1,h2 =>
   by_cases hn:c.toNat=45
   ·have hb:body (c :: r)=r:=body_neg (by simp [hn])
    rw [hb] at h1 h2
    have hv:val (c :: r) = -(dv 0 r:Int):=by simp [val,hn]
    have hp:parseUintB 64 r=if dv 0 r≤18446744073709551615 then .ok (dv 0 r) else .range:=by
     rw [parseUintB,if_neg h1];exact parse_digits _ (by decide) r 0 (by decide) h2
    simp only [parseIntB,hn,or_true,if_true,hp,hv]
    by_cases hs:dv 0 r≤18446744073709551615
    ·rw [if_pos hs]
     simp only [not_true,false_and,if_false,true_and]
     by_cases hs2:dv 0 r≤9223372036854775808
     ·rw [if_neg (by omega),if_pos (by omega)]
     ·rw [if_pos (by omega),if_neg (by omega)]
    ·rw [if_neg hs]
     simp only []
     rw [if_neg (by omega)]
   ·have hb:body (c :: r)=c :: r:=body_pos (by simp [hn])
    rw [hb] at h1 h2
    have hc:48≤c.toNat∧c.toNat≤57:=(dg_iff c).1 (by simp only [List.all_cons,Bool.and_eq_true] at h2;exact h2.1)
    have hv:val (c :: r)=(dv 0 (c :: r):Int):=by simp [val,hn]
    have hp:parseUintB 64 (c :: r)=if dv 0 (c :: r)≤18446744073709551615 then .ok (dv 0 (c :: r)) else .range:=by
     rw [parseUintB,if_neg h1];exact parse_digits _ (by decide) _ 0 (by decide) h2
    have hn3:¬ c.toNat=43:=by omega
    simp only [parseIntB,hn,hn3,or_false,if_false,hp,hv]
    generalize dv 0 (c :: r)=V
    by_cases hs:V≤18446744073709551615
    ·rw [if_pos hs]
     simp only [not_false_eq_true,false_and,if_false,true_and]
     by_cases hs2:V<9223372036854775808
     ·rw [if_neg (by omega),if_pos (by omega)]
     ·rw [if_pos (by omega),if_neg (by omega)]
    ·rw [if_neg hs]
     simp only []
     rw [if_neg (by omega)]
end Nm
end
section
open Go.RowKit
theorem take_snoc (s:ByteArray) (k:Nat) (h:k<s.size):s.data.toList.take (k+1)=s.data.toList.take k++[s[k]]:=by
 rw [List.take_succ_eq_append_getElem (by simpa using h)];rfl
theorem ret_bool {a b:Bool} (h:a=b):Ending.returned (.bool a)=.returned (.bool b):=by rw [h]
theorem ret_int {k:IntKind} {a b:Int} (h:a=b):Ending.returned (.int k a)=.returned (.int k b):=by rw [h]
theorem mem_at (s:ByteArray) (k:Nat) (h:k<s.size):s[k] ∈ s.data.toList:=List.mem_of_getElem? (Lib.data_getElem? s k h)
theorem toList_data (s:ByteArray):s.toList=s.data.toList:=ByteArray.toList_eq s
theorem size_len (s:ByteArray):s.data.toList.length=s.size:=(Lib.size_eq s).symm
theorem head_at (s:ByteArray) (h:0<s.size):s.data.toList=s[0] :: s.data.toList.tail:=by
 have h0:=Lib.data_getElem? s 0 h
 match hl:s.data.toList,h0 with
 | [],h0=>simp at h0
 | c :: r,h0=>simp at h0;rw [h0];rfl
theorem empty_of (s:ByteArray) (h:¬ 0<s.size):s.data.toList=[]:=List.length_eq_zero_iff.1 (by rw [size_len];omega)
theorem bytes_back (s:ByteArray):s=⟨s.data.toList.toArray⟩:=by cases s;rfl
theorem below_more {a b c:World} (h:Below a.heap.size a b) (k:Below b.heap.size b c):Below a.heap.size a c:=h.trans (k.mono h.size)
theorem gPow:Tryz.prog.globalNamed "internal/strconv.uint64pow10" = some 3:=by kernel_rfl
structure TabEnv (w:World):Prop where
 tab:Lib.TabIs Tryz.prog w "internal/strconv.uint64pow10" .u64 Lib.pow10Tab
 big:3<w.heap.size
theorem TabEnv.below {w w':World} (h:TabEnv w) (hb:Below w.heap.size w w'):TabEnv w' :=
 ⟨var?_below hb gPow h.big h.tab,Nat.lt_of_lt_of_le h.big hb.size⟩
theorem gRange:Tryz.prog.globalNamed "strconv.ErrRange" = some 2:=by kernel_rfl
/-- The library's error for numbers out of range is laid, too. -/
structure NumEnv (w:World):Prop extends TabEnv w where
 range:∃ tp p,w.var? Tryz.prog "strconv.ErrRange" = some #[.iface tp p]
 rbig:2<w.heap.size
theorem NumEnv.below {w w':World} (h:NumEnv w) (hb:Below w.heap.size w w'):NumEnv w':=by
 obtain ⟨tp,p,hr⟩:=h.range
 exact ⟨h.toTabEnv.below hb,⟨tp,p,var?_below hb gRange h.rbig hr⟩,Nat.lt_of_lt_of_le h.rbig hb.size⟩
end
section
open Go.RowKit
def digs (l:List UInt8):Bool:=l.all Nm.dg
theorem digs_step {l:List UInt8} {s:ByteArray} {k:Nat} (hl:s.data.toList=l) (h:k<s.size) (ha:digs (l.take k)=true) (h1:48≤(s[k].toNat:Int)) (h2:(s[k].toNat:Int)≤57):digs (l.take (k+1))=true:=by
 subst hl
 rw [take_snoc s k h,digs,List.all_append]
 simp only [digs] at ha
 rw [ha]
 simp only [List.all_cons,List.all_nil,Bool.and_true,Bool.true_and]
 exact (Nm.dg_iff _).2 ⟨by omega,by omega⟩
theorem digs_stop {l:List UInt8} {s:ByteArray} {k:Nat} (hl:s.data.toList=l) (h:k<s.size) (h1:(s[k].toNat:Int)<48∨57<(s[k].toNat:Int)):digs l=false:=by
 subst hl
 rw [digs,List.all_eq_false]
 refine ⟨s[k],mem_at s k h,fun hd=>?_⟩
 have:=(Nm.dg_iff _).1 hd
 omega
theorem digs_all {l:List UInt8} {s:ByteArray} {k:Nat} (hl:s.data.toList=l) (h:¬ k<s.size) (ha:digs (l.take k)=true):digs l=true:=by
 subst hl
 rwa [List.take_of_length_le (by rw [size_len];omega)] at ha
theorem form_zero:Nm.form [48]=true:=by decide
theorem form_nil:Nm.form []=false:=by decide
theorem form_pos {c:UInt8} {r:List UInt8} (h0:¬ c :: r=[48]) (h:c.toNat≠45):Nm.form (c :: r)=(decide (c.toNat≠48) && digs (c :: r)):=by
 have hb:Nm.body (c :: r)=c :: r:=Nm.body_pos (by simp [h])
 simp only [Nm.form,hb,h0,digs]
 simp
theorem form_neg {c:UInt8} {r:List UInt8} (h:c.toNat=45):Nm.form (c :: r)=(decide (r≠[]) && decide (r.head?.map (·.toNat)≠some 48) && digs r):=by
 have hb:Nm.body (c :: r)=r:=Nm.body_neg (by simp [h])
 have h0:¬ c :: r=[48]:=by intro e;injection e with e1 e2;subst e1;simp at h
 simp only [Nm.form,hb,h0,digs]
 simp
theorem formed_zero (s:ByteArray) (w:World) (hz:(s.toList == [48])=true) :
 Calls Tryz.prog 156 #[.string s] w fun e w'=>e=.returned (.bool true)∧w=w':=by
 go_enter Tryz.func156,Tryz.ntmps156
 go_wp2
 go_ret
 exact ⟨rfl,rfl⟩
theorem formed_nil (s:ByteArray) (w:World) (_hz:(s.toList == [48])=false) (hn:s.toList=[]) :
 Calls Tryz.prog 156 #[.string s] w fun e w'=>e=.returned (.bool false)∧w=w':=by
 go_enter Tryz.func156,Tryz.ntmps156
 go_wp2
 go_ret
 exact ⟨rfl,rfl⟩
theorem formed_pos0 (s:ByteArray) (w:World) (hz:(s.toList == [48])=false) (_hne:¬ s.toList=[]) (he:s.toList.isEmpty=false) (h0:0<s.size)
 (hm:((s[0].toNat:Int) == 45)=false) (h8:((s[0].toNat:Int) == 48)=true) :
 Calls Tryz.prog 156 #[.string s] w fun e w'=>e=.returned (.bool false)∧w=w':=by
 go_enter Tryz.func156,Tryz.ntmps156
 go_wp2
 go_ret
 exact ⟨rfl,rfl⟩
theorem formed_pos (s:ByteArray) (w:World) (hs:s.size≤maxLen) (hz:(s.toList == [48])=false) (_hne:¬ s.toList=[]) (he:s.toList.isEmpty=false) (h0:0<s.size)
 (hm:((s[0].toNat:Int) == 45)=false) (h8:((s[0].toNat:Int) == 48)=false) :
 Calls Tryz.prog 156 #[.string s] w fun e w'=>e=.returned (.bool (digs s.data.toList))∧w=w':=by
 unfold maxLen at hs
 go_enter Tryz.func156,Tryz.ntmps156
 go_wp2
 go_loop [24] (fun i=>∃ k:Nat,k≤s.size∧i=.int .i64 k∧digs (s.data.toList.take k)=true) (fun i=>s.size - (intOf i).toNat)
 case atStart=>exact ⟨0,Nat.zero_le _,rfl,rfl⟩
 case round =>
  obtain ⟨k,hk,rfl,hall⟩:=hrel
  have HA:=Lib.hid hall
  clear hall
  by_cases hlt:k<s.size
  ·by_cases h1:(s[k].toNat:Int)<48
   ·go_wp2
    go_ret
    exact ⟨ret_bool (digs_stop rfl hlt (Or.inl h1)).symm,rfl⟩
   ·by_cases h2:57<(s[k].toNat:Int)
    ·go_wp2
     go_ret
     exact ⟨ret_bool (digs_stop rfl hlt (Or.inr h2)).symm,rfl⟩
    ·go_wp2
     go_round
     case rel=>exact ⟨k+1,by omega,by go_num,digs_step rfl hlt HA.out (by omega) (by omega)⟩
     case measure=>simp [intOf];omega
  ·go_wp2
   go_ret
   exact ⟨ret_bool (digs_all rfl hlt HA.out).symm,rfl⟩
theorem formed_neg1 (s:ByteArray) (w:World) (hz:(s.toList == [48])=false) (_hne:¬ s.toList=[]) (he:s.toList.isEmpty=false) (h0:0<s.size)
 (hm:((s[0].toNat:Int) == 45)=true) (h8:(s.extract 1 s.size).toList=[]) :
 Calls Tryz.prog 156 #[.string s] w fun e w'=>e=.returned (.bool false)∧w=w':=by
 go_enter Tryz.func156,Tryz.ntmps156
 go_wp2
 go_ret
 exact ⟨rfl,rfl⟩
theorem formed_neg0 (s:ByteArray) (w:World) (hz:(s.toList == [48])=false) (_hne:¬ s.toList=[]) (he:s.toList.isEmpty=false) (h0:0<s.size)
 (hm:((s[0].toNat:Int) == 45)=true) (_hne2:¬ (s.extract 1 s.size).toList=[]) (he2:(s.extract 1 s.size).toList.isEmpty=false) (h1:1<s.size) (hx:0<(s.extract 1 s.size).size) (h8:(((s.extract 1 s.size)[0].toNat:Int) == 48)=true) :
 Calls Tryz.prog 156 #[.string s] w fun e w'=>e=.returned (.bool false)∧w=w':=by
 go_enter Tryz.func156,Tryz.ntmps156
 go_wp2
 go_ret
 exact ⟨rfl,rfl⟩
theorem formed_neg (s:ByteArray) (w:World) (hs:s.size≤maxLen) (hz:(s.toList == [48])=false) (_hne:¬ s.toList=[]) (he:s.toList.isEmpty=false) (h0:0<s.size)
 (hm:((s[0].toNat:Int) == 45)=true) (_hne2:¬ (s.extract 1 s.size).toList=[]) (he2:(s.extract 1 s.size).toList.isEmpty=false) (h1:1<s.size) (hx:0<(s.extract 1 s.size).size) (h8:(((s.extract 1 s.size)[0].toNat:Int) == 48)=false) (r:Bool) (hr:Hid (digs (s.extract 1 s.size).data.toList=r)) :
 Calls Tryz.prog 156 #[.string s] w fun e w'=>e=.returned (.bool r)∧w=w':=by
 unfold maxLen at hs
 have hxs:(s.extract 1 s.size).size=s.size - 1:=by rw [ByteArray.size_extract];omega
 have HX:=Lib.hid hxs
 clear hxs
 go_enter Tryz.func156,Tryz.ntmps156
 go_wp2
 go_loop [24] (fun i=>∃ k:Nat,k≤s.size - 1∧i=.int .i64 k∧digs ((s.extract 1 s.size).data.toList.take k)=true) (fun i=>s.size - 1 - (intOf i).toNat)
 case atStart=>exact ⟨0,Nat.zero_le _,rfl,rfl⟩
 case round =>
  obtain ⟨k,hk,rfl,hall⟩:=hrel
  have HA:=Lib.hid hall
  clear hall
  by_cases hlt:k<s.size - 1
  ·have hltx:k<(s.extract 1 s.size).size:=by rw [HX.out];exact hlt
   by_cases h1:((s.extract 1 s.size)[k].toNat:Int)<48
   ·go_wp2
    go_ret
    exact ⟨ret_bool ((digs_stop rfl hltx (Or.inl h1)).symm.trans hr.out),rfl⟩
   ·by_cases h2:57<((s.extract 1 s.size)[k].toNat:Int)
    ·go_wp2
     go_ret
     exact ⟨ret_bool ((digs_stop rfl hltx (Or.inr h2)).symm.trans hr.out),rfl⟩
    ·go_wp2
     go_round
     case rel=>exact ⟨k+1,by omega,by go_num,digs_step rfl hltx HA.out (by omega) (by omega)⟩
     case measure=>simp [intOf];omega
  ·go_wp2
   go_ret
   exact ⟨ret_bool ((digs_all rfl (by rw [HX.out];exact hlt) HA.out).symm.trans hr.out),rfl⟩
theorem formed_any (s:ByteArray) (w:World) (hs:s.size≤maxLen) :
 Calls Tryz.prog 156 #[.string s] w fun e w'=>e=.returned (.bool (Nm.form s.data.toList))∧w=w':=by
 by_cases hz:s.data.toList=[48]
 ·rw [hz,form_zero]
  exact formed_zero s w (by rw [toList_data,hz];rfl)
 ·have hz':(s.toList == [48])=false:=by rw [toList_data];exact beq_eq_false_iff_ne.2 hz
  by_cases h0:0<s.size
  ·have hl:=head_at s h0
   have hne:¬ s.toList=[]:=by rw [toList_data,hl];simp
   have he:s.toList.isEmpty=false:=by rw [toList_data,hl];rfl
   by_cases hm:s[0].toNat=45
   ·have hm':((s[0].toNat:Int) == 45)=true:=by rw [hm];rfl
    have hx:(s.extract 1 s.size).data.toList=s.data.toList.tail:=by rw [Lib.extract_to_end,List.drop_one]
    have hf:Nm.form s.data.toList=_:=(congrArg Nm.form hl).trans (form_neg hm)
    by_cases h1:1<s.size
    ·have hxs:(s.extract 1 s.size).size=s.size - 1:=by rw [ByteArray.size_extract];omega
     have hx0:0<(s.extract 1 s.size).size:=by omega
     have hxl:=head_at (s.extract 1 s.size) hx0
     have hne2:¬ (s.extract 1 s.size).toList=[]:=by rw [toList_data,hxl];simp
     have he2:(s.extract 1 s.size).toList.isEmpty=false:=by rw [toList_data,hxl];rfl
     rw [← hx] at hf
     by_cases h8:(s.extract 1 s.size)[0].toNat=48
     ·rw [hf,hxl]
      simp only [List.head?_cons,Option.map_some,h8]
      exact formed_neg0 s w hz' hne he h0 hm' hne2 he2 h1 hx0 (by rw [h8];rfl)
     ·have e:Nm.form s.data.toList=digs (s.extract 1 s.size).data.toList:=by
       rw [hf]
       rw [show decide ((s.extract 1 s.size).data.toList≠[])=true by rw [hxl];simp]
       rw [show decide ((s.extract 1 s.size).data.toList.head?.map (·.toNat)≠some 48)=true by rw [hxl];simp [h8]]
       rfl
      rw [e]
      exact formed_neg s w hs hz' hne he h0 hm' hne2 he2 h1 hx0 (by simp;omega) _ rfl
    ·have hnil:s.data.toList.tail=[]:=by
      apply List.length_eq_zero_iff.1
      rw [List.length_tail,size_len];omega
     rw [hf,hnil]
     exact formed_neg1 s w hz' hne he h0 hm' (by rw [toList_data,hx,hnil])
   ·have hm':((s[0].toNat:Int) == 45)=false:=by simp;omega
    have hf:Nm.form s.data.toList=_:=(congrArg Nm.form hl).trans (form_pos (by rw [← hl];exact hz) hm)
    by_cases h8:s[0].toNat=48
    ·rw [hf]
     simp only [h8]
     exact formed_pos0 s w hz' hne he h0 hm' (by rw [h8];rfl)
    ·rw [hf,← hl,show decide (s[0].toNat≠48)=true by simp [h8],Bool.true_and]
     exact formed_pos s w hs hz' hne he h0 hm' (by simp;omega)
  ·have hl:=empty_of s h0
   rw [hl,form_nil]
   exact formed_nil s w hz' (by rw [toList_data,hl])
end
end

section
set_option maxRecDepth 100000
section
open Go.RowKit
inductive JV where
 | mk (k n:Int) (t:ByteArray) (names:List ByteArray) (items:List JV)
namespace JV
def k:JV→Int | .mk k _ _ _ _=>k
def n:JV→Int | .mk _ n _ _ _=>n
def t:JV→ByteArray | .mk _ _ t _ _=>t
def names:JV→List ByteArray | .mk _ _ _ l _=>l
def items:JV→List JV | .mk _ _ _ _ l=>l
theorem eta (v:JV):v=.mk v.k v.n v.t v.names v.items:=by cases v;rfl
theorem size_item {v x:JV} (h:x ∈ v.items):SizeOf.sizeOf x<SizeOf.sizeOf v:=by
 cases v with
 | mk k n t names items =>
   have:=List.sizeOf_lt_of_mem h
   simp only [JV.items] at this
   rw [JV.mk.sizeOf_spec]
   omega
end JV
def StrsAt (w:World) (v:Value) (l:List ByteArray):Prop :=
 (∀ s ∈ l,s.size≤maxLen)∧l.length≤9223372036854775807 ∧
 ((l=[]∧∃ a cap,v=.slice a 0 cap)∨∃ b o cap,v=.slice (some ⟨b,o,none⟩) l.length cap∧∀ i s,l[i]?=some s→w.cell? ⟨b,o+i,none⟩=some (.string s))
mutual
def ValAt (w:World):JV→Value→Prop
 | .mk k n t names items,v=>∃ vn vi,v=.agg #[.int .u8 k,.int .i64 n,.string t,vn,vi]∧0≤k∧k≤255∧-9223372036854775808≤n∧n≤9223372036854775807∧t.size≤maxLen∧StrsAt w vn names ∧
  items.length≤9223372036854775807∧((items=[]∧∃ a cap,vi=.slice a 0 cap)∨∃ b o cap,vi=.slice (some ⟨b,o,none⟩) items.length cap∧RowAt w b o items∧items.length≤cap)
def RowAt (w:World) (b:Nat):Nat→List JV→Prop
 | _,[]=>True
 | o,x :: r=>(∃ c0 c1 c2 c3 c4,w.cell? ⟨b,o,none⟩=some c0∧w.cell? ⟨b,o+1,none⟩=some c1∧w.cell? ⟨b,o+2,none⟩=some c2∧w.cell? ⟨b,o+3,none⟩=some c3∧w.cell? ⟨b,o+4,none⟩=some c4∧ValAt w x (.agg #[c0,c1,c2,c3,c4]))∧RowAt w b (o+5) r
end
def ItemsAt (w:World) (v:Value) (items:List JV):Prop :=
 items.length≤9223372036854775807∧((items=[]∧∃ a cap,v=.slice a 0 cap)∨∃ b o cap,v=.slice (some ⟨b,o,none⟩) items.length cap∧RowAt w b o items∧items.length≤cap)
theorem valAt_iff {w:World} {V:JV} {v:Value}:ValAt w V v↔∃ vn vi,v=.agg #[.int .u8 V.k,.int .i64 V.n,.string V.t,vn,vi]∧0≤V.k∧V.k≤255∧-9223372036854775808≤V.n∧V.n≤9223372036854775807∧V.t.size≤maxLen∧StrsAt w vn V.names∧ItemsAt w vi V.items:=by
 cases V with
 | mk k n t names items=>rw [ValAt];rfl
theorem RowAt.item {w:World} {b:Nat}:∀ {items:List JV} {o:Nat},RowAt w b o items→∀ {i:Nat} {x:JV},items[i]?=some x →
 ∃ c0 c1 c2 c3 c4,w.cell? ⟨b,o+i*5,none⟩=some c0∧w.cell? ⟨b,o+i*5+1,none⟩=some c1∧w.cell? ⟨b,o+i*5+2,none⟩=some c2∧w.cell? ⟨b,o+i*5+3,none⟩=some c3∧w.cell? ⟨b,o+i*5+4,none⟩=some c4∧ValAt w x (.agg #[c0,c1,c2,c3,c4])
 | [],_,_,i,x,h=>by simp at h
 | y :: r,o,hr,0,x,h=>by
   rw [RowAt] at hr
   simp only [List.getElem?_cons_zero,Option.some.injEq] at h
   subst h
   simpa using hr.1
 | y :: r,o,hr,i+1,x,h=>by
   rw [RowAt] at hr
   obtain ⟨c0,c1,c2,c3,c4,h0,h1,h2,h3,h4,h5⟩:=RowAt.item hr.2 (i:=i) (x:=x) (by simpa using h)
   have e:o+(i+1)*5=o+5+i*5:=by omega
   refine ⟨c0,c1,c2,c3,c4,?_,?_,?_,?_,?_,h5⟩ <;> rw [e] <;> assumption
theorem StrsAt.parts {w:World} {v:Value} {l:List ByteArray} (h:StrsAt w v l):∃ a cap,v=.slice a l.length cap∧l.length≤9223372036854775807∧(∀ s ∈ l,s.size≤maxLen)∧∀ i s,l[i]?=some s→∃ b o,a=some ⟨b,o,none⟩∧w.cell? ⟨b,o+i,none⟩=some (.string s):=by
 obtain ⟨h1,h2,h3⟩:=h
 rcases h3 with ⟨rfl,a,cap,rfl⟩ | ⟨b,o,cap,rfl,hc⟩
 ·exact ⟨a,cap,rfl,by simp,h1,fun i s hs=>by simp at hs⟩
 ·exact ⟨_,cap,rfl,h2,h1,fun i s hs=>⟨b,o,rfl,hc i s hs⟩⟩
theorem ItemsAt.parts {w:World} {v:Value} {l:List JV} (h:ItemsAt w v l):∃ a cap,v=.slice a l.length cap∧l.length≤9223372036854775807∧∀ i x,l[i]?=some x→∃ b o vn vi,a=some ⟨b,o,none⟩ ∧
 w.cell? ⟨b,o+i*5,none⟩=some (.int .u8 x.k)∧w.cell? ⟨b,o+i*5+1,none⟩=some (.int .i64 x.n)∧w.cell? ⟨b,o+i*5+2,none⟩=some (.string x.t)∧w.cell? ⟨b,o+i*5+3,none⟩=some vn∧w.cell? ⟨b,o+i*5+4,none⟩=some vi ∧
 0≤x.k∧x.k≤255∧-9223372036854775808≤x.n∧x.n≤9223372036854775807∧x.t.size≤maxLen∧StrsAt w vn x.names∧ItemsAt w vi x.items:=by
 obtain ⟨h1,h2⟩:=h
 rcases h2 with ⟨rfl,a,cap,rfl⟩ | ⟨b,o,cap,rfl,hr,-⟩
 ·exact ⟨a,cap,rfl,by simp,fun i s hs=>by simp at hs⟩
 ·refine ⟨_,cap,rfl,h1,fun i x hx=>?_⟩
  obtain ⟨c0,c1,c2,c3,c4,e0,e1,e2,e3,e4,hv⟩:=hr.item hx
  obtain ⟨vn,vi,hagg,k0,k1,n0,n1,ht,hns,his⟩:=valAt_iff.1 hv
  simp only [Value.agg.injEq,Array.mk.injEq,List.cons.injEq] at hagg
  obtain ⟨rfl,rfl,rfl,rfl,rfl,-⟩:=hagg
  exact ⟨b,o,_,_,rfl,e0,e1,e2,e3,e4,k0,k1,n0,n1,ht,hns,his⟩
theorem items_lt {l:List JV} {i:Nat} {x:JV} (h:l[i]?=some x):SizeOf.sizeOf x.items<SizeOf.sizeOf l:=by
 have h1:=List.sizeOf_lt_of_mem (List.mem_of_getElem? h)
 have h2:SizeOf.sizeOf x.items<SizeOf.sizeOf x:=by
  cases x with
  | mk k n t names items =>
    simp only [JV.items]
    rw [JV.mk.sizeOf_spec]
    omega
 omega
/-! What lies below a mark stays. -/
theorem cell_lt {w:World} {p:Addr} {v:Value} (h:w.cell? p=some v):p.block<w.heap.size:=by
 rcases Nat.lt_or_ge p.block w.heap.size with h' | h'
 ·exact h'
 ·rw [World.cell?,Array.getElem?_eq_none h'] at h;cases h
theorem cell_keep {w w':World} (hb:Below w.heap.size w w') {p:Addr} {v:Value} (h:w.cell? p=some v):w'.cell? p=some v:=by
 rw [hb.cell (cell_lt h)];exact h
theorem StrsAt.keep {w w':World} (hb:Below w.heap.size w w') {v:Value} {l:List ByteArray} (h:StrsAt w v l):StrsAt w' v l:=by
 obtain ⟨h1,h2,h3⟩:=h
 refine ⟨h1,h2,?_⟩
 rcases h3 with h3 | ⟨b,o,cap,hv,hc⟩
 ·exact Or.inl h3
 ·exact Or.inr ⟨b,o,cap,hv,fun i s hs=>cell_keep hb (hc i s hs)⟩
mutual
theorem ValAt.keep {w w':World} (hb:Below w.heap.size w w'):∀ {V:JV} {v:Value},ValAt w V v→ValAt w' V v
 | .mk k n t names items,v,h=>by
   rw [ValAt] at h ⊢
   obtain ⟨vn,vi,hv,k0,k1,n0,n1,ht,hn,hl,hi⟩:=h
   refine ⟨vn,vi,hv,k0,k1,n0,n1,ht,hn.keep hb,hl,?_⟩
   rcases hi with hi | ⟨b,o,cap,hv,hr,hz⟩
   ·exact Or.inl hi
   ·exact Or.inr ⟨b,o,cap,hv,RowAt.keep hb hr,hz⟩
theorem RowAt.keep {w w':World} (hb:Below w.heap.size w w') {b:Nat}:∀ {items:List JV} {o:Nat},RowAt w b o items→RowAt w' b o items
 | [],_,_=>by rw [RowAt];trivial
 | x :: r,o,h=>by
   rw [RowAt] at h ⊢
   obtain ⟨⟨c0,c1,c2,c3,c4,h0,h1,h2,h3,h4,h5⟩,hr⟩:=h
   exact ⟨⟨c0,c1,c2,c3,c4,cell_keep hb h0,cell_keep hb h1,cell_keep hb h2,cell_keep hb h3,cell_keep hb h4,ValAt.keep hb h5⟩,RowAt.keep hb hr⟩
end
theorem ItemsAt.keep {w w':World} (hb:Below w.heap.size w w') {v:Value} {l:List JV} (h:ItemsAt w v l):ItemsAt w' v l:=by
 obtain ⟨h1,h2⟩:=h
 refine ⟨h1,?_⟩
 rcases h2 with h2 | ⟨b,o,cap,hv,hr,hz⟩
 ·exact Or.inl h2
 ·exact Or.inr ⟨b,o,cap,hv,hr.keep hb,hz⟩
end
section
open Go.RowKit
mutual
def wt:JV→Nat
 | .mk _ _ t names items=>4+t.size+(names.map fun s=>2+s.size).sum+wtL items
def wtL:List JV→Nat
 | []=>0
 | x :: r=>wt x+wtL r
end
def wtN (names:List ByteArray):Nat:=(names.map fun s=>2+s.size).sum
theorem wt_eq (x:JV):wt x=4+x.t.size+wtN x.names+wtL x.items:=by cases x;rfl
theorem wtL_append (a b:List JV):wtL (a++b)=wtL a+wtL b:=by
 induction a with
 | nil=>simp [wtL]
 | cons x r ih=>simp only [List.cons_append,wtL,ih];omega
theorem wtL_step {items:List JV} {j:Nat} {x:JV} (h:items[j]?=some x):wtL (items.take (j+1))=wtL (items.take j)+wt x:=by
 rw [List.take_add_one,h,wtL_append];simp [wtL]
theorem wtN_step {l:List ByteArray} {j:Nat} {x:ByteArray} (h:l[j]?=some x):wtN (l.take (j+1))=wtN (l.take j)+(2+x.size):=by
 rw [List.take_add_one,h,wtN,wtN,List.map_append,List.sum_append];simp
def SizePost (items:List JV) (deep:Int) (w:World) (e:Ending) (w':World):Prop :=
 ∃ r:Int,e=.returned (.int .i64 r)∧0≤r∧r≤50000*(203 - deep)∧(r<20000→(wtL items:Int)=r)∧w=w'
theorem size_any (N:Nat):∀ (items:List JV) (v:Value) (deep:Int) (w:World),SizeOf.sizeOf items<N→ItemsAt w v items→0≤deep→deep≤201 →
 Calls Tryz.prog 17 #[v,.int .i64 deep] w (SizePost items deep w):=by
 induction N with
 | zero=>intro items v deep w h;omega
 | succ N ih =>
   intro items v deep w hN hI d0 d1
   have HI:=Lib.hid ih
   clear ih
   obtain ⟨a,cap,rfl,hl,hI⟩:=hI.parts
   have Hit:=Lib.hid hI
   clear hI
   obtain ⟨len,hlen⟩:∃ n,items.length=n:=⟨_,rfl⟩
   rw [hlen] at hl ⊢
   have HL:=Lib.hid hlen
   clear hlen
   go_enter Tryz.func17,Tryz.ntmps17
   go_wp2_with fail
   go_loop [5,6] (fun n i=>∃ (j:Nat) (m:Int),j≤len∧i=.int .i64 j∧n=.int .i64 m∧0≤m∧m≤50000*(203 - deep)∧Hid (m<20000→(wtL (items.take j):Int)=m)) (fun _ i=>len - (intOf i).toNat)
   case atStart=>exact ⟨0,0,by omega,rfl,rfl,by omega,by omega,fun _=>by simp [wtL]⟩
   case round =>
    obtain ⟨j,m,hj,rfl,rfl,m0,m1,HM⟩:=hrel
    by_cases hjl:j<len
    ·by_cases hm:m<20000
     ·obtain ⟨x,hx⟩:∃ x,items[j]?=some x:=⟨_,List.getElem?_eq_getElem (by rw [HL.out];exact hjl)⟩
      obtain ⟨b,o,vn,vi,rfl,h0,h1,h2,h3,h4,k0,k1,n0,n1,ht,hns,his⟩:=Hit.out j x hx
      obtain ⟨an,ncap,rfl,hnl,hnm,hnc⟩:=hns.parts
      have Hx:=Lib.hid hx
      have Hnc:=Lib.hid hnc
      have Hnm:=Lib.hid hnm
      clear hx hns hnc hnm k0 k1 n0 n1 h0 h1
      unfold maxLen at ht
      have HMx:=HM.out hm
      obtain ⟨nlen,hnlen⟩:∃ n,x.names.length=n:=⟨_,rfl⟩
      rw [hnlen] at h3 hnl
      have HNL:=Lib.hid hnlen
      have HMX:=Lib.hid HMx
      clear hnlen HMx
      by_cases ht2:x.t.size<20000
      all_goals
       go_wp2_with fail
       go_loop [5,7] (fun n i=>∃ (kk:Nat) (m2:Int),kk≤nlen∧i=.int .i64 kk∧n=.int .i64 m2∧0≤m2∧m2≤40006∧Hid (m2<20000→m2=m+4+x.t.size+wtN (x.names.take kk))) (fun _ i=>nlen - (intOf i).toNat)
       case atStart =>
        refine ⟨0,_,by omega,rfl,rfl,by omega,by omega,fun h=>?_⟩
        simp only [List.take_zero,wtN,List.map_nil,List.sum_nil]
        omega
       case round =>
        obtain ⟨kk,m2,hkk,rfl,rfl,g0,g1,HG⟩:=hrel
        by_cases hkl:kk<nlen
        ·by_cases hm2:m2<20000
         ·obtain ⟨s,hs⟩:∃ s,x.names[kk]?=some s:=⟨_,List.getElem?_eq_getElem (by rw [HNL.out];exact hkl)⟩
          obtain ⟨nb,no_,rfl,hcell⟩:=Hnc.out kk s hs
          have hsz:s.size≤9223372036854775807:=Hnm.out s (List.mem_of_getElem? hs)
          have HG2:=HG.out hm2
          have hst:=wtN_step hs
          have HS:Hid (m2+2+s.size=m+4+x.t.size+wtN (x.names.take (kk+1))):=by show _=_;rw [hst];omega
          clear hs HG2 hst
          by_cases hs2:s.size<20000
          all_goals
           go_wp2_with fail
           refine ⟨⟨kk+1,_,by omega,by go_num,rfl,by omega,by omega,fun h=>?_⟩,?_⟩
           ·have:=HS.out
            omega
           ·simp [intOf];omega
         ·have HR:Hid (m2<20000→m2=m+4+x.t.size+wtN x.names):=fun h=>absurd h hm2
          clear HG
          by_cases hdeep:200<deep
          ·go_wp2_with fail
           go_ret
           exact ⟨20000,rfl,by omega,by omega,fun h=>by omega,rfl⟩
          ·go_wp2_with fail
           refine (HI.out x.items vi (deep+1) _ (by have:=items_lt Hx.out;omega) his (by omega) (by omega)).mono ?_
           rintro e w' ⟨r,rfl,r0,r1,hr,rfl⟩
           have HRR:=Lib.hid hr
           clear hr
           go_wp2_with fail
           refine ⟨⟨j+1,_,by omega,by go_num,rfl,by omega,by omega,fun h=>?_⟩,?_⟩
           ·rw [wtL_step Hx.out,wt_eq]
            have e1:=HRR.out (by omega)
            have e2:=HR.out (by omega)
            have e3:=HMX.out
            omega
           ·simp [intOf];omega
        ·have HR:Hid (m2<20000→m2=m+4+x.t.size+wtN x.names):=fun h=>by
          have:=HG.out h
          rwa [List.take_of_length_le (by rw [HNL.out];omega)] at this
         clear HG
         by_cases hdeep:200<deep
         ·go_wp2_with fail
          go_ret
          exact ⟨20000,rfl,by omega,by omega,fun h=>by omega,rfl⟩
         ·go_wp2_with fail
          refine (HI.out x.items vi (deep+1) _ (by have:=items_lt Hx.out;omega) his (by omega) (by omega)).mono ?_
          rintro e w' ⟨r,rfl,r0,r1,hr,rfl⟩
          have HRR:=Lib.hid hr
          clear hr
          go_wp2_with fail
          refine ⟨⟨j+1,_,by omega,by go_num,rfl,by omega,by omega,fun h=>?_⟩,?_⟩
          ·rw [wtL_step Hx.out,wt_eq]
           have e1:=HRR.out (by omega)
           have e2:=HR.out (by omega)
           have e3:=HMX.out
           omega
          ·simp [intOf];omega
     ·have hbad:m<20000→(wtL items:Int)=m:=fun h=>absurd h hm
      have HB:=Lib.hid hbad
      clear hbad
      go_wp2_with fail
      go_ret
      exact ⟨m,rfl,m0,m1,HB.out,rfl⟩
    ·have hall:m<20000→(wtL items:Int)=m:=fun h=>by
      have:=HM.out h
      rwa [List.take_of_length_le (by rw [HL.out];omega)] at this
     have HB:=Lib.hid hall
     clear hall
     go_wp2_with fail
     go_ret
     exact ⟨m,rfl,m0,m1,HB.out,rfl⟩
def LongPost (items:List JV) (w:World) (e:Ending) (w':World):Prop :=
 ∃ r:Bool,e=.returned (.bool r)∧(r=false→wtL items<20000)∧w=w'
theorem long_any (items:List JV) (v:Value) (w:World) (h:ItemsAt w v items) :
 Calls Tryz.prog 5 #[v] w (LongPost items w):=by
 go_enter Tryz.func5,Tryz.ntmps5
 go_wp2_with fail
 refine (size_any _ items v 0 _ (Nat.lt_succ_self _) h (by omega) (by omega)).mono ?_
 rintro e w' ⟨r,rfl,r0,r1,hr,rfl⟩
 have HR:=Lib.hid hr
 clear hr
 go_wp2_with fail
 go_ret
 refine ⟨_,rfl,fun h=>?_,rfl⟩
 have h2:r<20000:=by simpa using h
 have:=HR.out h2
 omega
end
section
open Go.RowKit
theorem bcell {W w1:World} (hb:Below W.heap.size W w1):(∀ b o,b<W.heap.size→w1.cell? ⟨b,o,none⟩=W.cell? ⟨b,o,none⟩)∧(∀ b o,b<W.heap.size→w1.frozen? ⟨b,o,none⟩=W.frozen? ⟨b,o,none⟩) :=
 ⟨fun b o h=>hb.cell (p:=⟨b,o,none⟩) h,fun b o h=>hb.frozen (p:=⟨b,o,none⟩) h⟩
theorem bel_alloc {a b:World} (h:Below a.heap.size a b) (o:Obj):Below a.heap.size a (b.alloc o):=h.alloc h.size o
theorem bel_drew {a b:World} (h:Below a.heap.size a b):Below a.heap.size a b.drew:=⟨h.os,h.tape,h.output,h.size,h.block⟩
theorem bel_drewN {a b:World} (h:Below a.heap.size a b) (n:Nat):Below a.heap.size a (b.drewN n):=⟨h.os,h.tape,h.output,h.size,h.block⟩
theorem bel_set {a b:World} (h:Below a.heap.size a b) {p:Addr} (hp:a.heap.size≤p.block) (v:Value):Below a.heap.size a (b.setCell p v):=h.setCell hp v
theorem cell_al_eq (w:World) (cs:Array Value) (t:TypeId) (b i:Nat) (h:b=w.heap.size):(w.alloc (.cells cs t)).cell? ⟨b,i,none⟩=cs[i]?:=by
 subst h
 have hh:(w.alloc (.cells cs t)).heap[w.heap.size]?=some (.cells cs t):=by
  show (w.heap.push (.cells cs t))[w.heap.size]?=_
  simp
 unfold World.cell?
 simp only [hh]
 rfl
theorem cell_al_lt (w:World) (o:Obj) (b i:Nat) (h:b<w.heap.size):(w.alloc o).cell? ⟨b,i,none⟩=w.cell? ⟨b,i,none⟩:=World.cell?_alloc_lt w o ⟨b,i,none⟩ h
theorem size_al (w:World) (o:Obj):(w.alloc o).heap.size=w.heap.size+1:=by show (w.heap.push o).size=_;simp
theorem strsAt_nil (w:World):StrsAt w (.slice none 0 0) []:=⟨by simp,by simp,Or.inl ⟨rfl,_,_,rfl⟩⟩
theorem itemsAt_nil (w:World):ItemsAt w (.slice none 0 0) []:=⟨by simp,Or.inl ⟨rfl,_,_,rfl⟩⟩
theorem itemsAt_of {w:World} {b o cap:Nat} {l:List JV} (hl:l.length≤9223372036854775807) (hr:RowAt w b o l) {n:Nat} (hn:n=l.length) (hz:n≤cap):ItemsAt w (.slice (some ⟨b,o,none⟩) n cap) l:=by
 subst hn
 exact ⟨hl,Or.inr ⟨b,o,cap,rfl,hr,hz⟩⟩
theorem rowAt_nil (w:World) (b o:Nat):RowAt w b o []:=by rw [RowAt];trivial
theorem rowAt_cons {w:World} {b o:Nat} {x:JV} {r:List JV} {c0 c1 c2 c3 c4:Value} (h:ValAt w x (.agg #[c0,c1,c2,c3,c4])) (h0:w.cell? ⟨b,o,none⟩=some c0) (h1:w.cell? ⟨b,o+1,none⟩=some c1) (h2:w.cell? ⟨b,o+2,none⟩=some c2) (h3:w.cell? ⟨b,o+3,none⟩=some c3) (h4:w.cell? ⟨b,o+4,none⟩=some c4)
 (hr:RowAt w b (o+5) r):RowAt w b o (x :: r):=by
 rw [RowAt]
 exact ⟨⟨c0,c1,c2,c3,c4,h0,h1,h2,h3,h4,h⟩,hr⟩
theorem rowAt_put {w:World} {b o:Nat} {x:JV} {r:List JV} {c0 c1 c2 c3 c4:Value} (h0:w.cell? ⟨b,o,none⟩=some c0) (h1:w.cell? ⟨b,o+1,none⟩=some c1) (h2:w.cell? ⟨b,o+2,none⟩=some c2) (h3:w.cell? ⟨b,o+3,none⟩=some c3) (h4:w.cell? ⟨b,o+4,none⟩=some c4)
 (h:ValAt w x (.agg #[c0,c1,c2,c3,c4])) (hr:RowAt w b (o+5) r):RowAt w b o (x :: r):=rowAt_cons h h0 h1 h2 h3 h4 hr
theorem valAt_mk {w:World} {k n:Int} {t:ByteArray} {names:List ByteArray} {items:List JV} {vn vi:Value} (k0:0≤k) (k1:k≤255) (n0:-9223372036854775808≤n) (n1:n≤9223372036854775807) (ht:t.size≤maxLen) (hn:StrsAt w vn names) (hi:ItemsAt w vi items) :
 ValAt w (.mk k n t names items) (.agg #[.int .u8 k,.int .i64 n,.string t,vn,vi]):=valAt_iff.2 ⟨vn,vi,rfl,k0,k1,n0,n1,ht,hn,hi⟩
theorem valAt_leaf (w:World) (k n:Int) (s:ByteArray) (k0:0≤k) (k1:k≤255) (n0:-9223372036854775808≤n) (n1:n≤9223372036854775807) (hs:s.size≤maxLen):ValAt w (.mk k n s [] []) (.agg #[.int .u8 k,.int .i64 n,.string s,.slice none 0 0,.slice none 0 0]) :=
 valAt_mk k0 k1 n0 n1 hs (strsAt_nil w) (itemsAt_nil w)
theorem itemsAt_lit {w:World} {b cap:Nat} {l:List JV} {n:Nat} (h:(decide (n=l.length) && decide (l.length≤1000000))=true) (hr:RowAt w b 0 l) (hz:n≤cap:=by first | decide | simp):ItemsAt w (.slice (some ⟨b,0,none⟩) n cap) l:=by
 simp only [Bool.and_eq_true,decide_eq_true_eq] at h
 exact itemsAt_of (by omega) hr h.1 hz
theorem itemsAt_len {w:World} {b cap:Nat} {l:List JV} (h:decide (l.length≤1000000)=true) (hr:RowAt w b 0 l) (hz:l.length≤cap:=by first | exact Nat.le_refl _ | simp):ItemsAt w (.slice (some ⟨b,0,none⟩) l.length cap) l :=
 itemsAt_lit (by simpa using h) hr hz
end
end
end Go.Proofs.YtchinankclckjaaGreatDoor
