/-
  num.Read and num.Show: what they answer, at every input.
  The marks of a text of JSON, plainly: what a text's quoted strings say, and which mark stands at the head of bytes.
-/
import Derived.Test.YtchinankclckjaaGreatDoorValA
import Derived.Test.YtchinankclckjaaGreatDoorShelf
import Derived.Test.YtchinankclckjaaGreatDoorUtfA
namespace Go.Proofs.YtchinankclckjaaGreatDoor
set_option maxHeartbeats 1000000
section
set_option maxRecDepth 100000
open Go.RowKit
namespace Nm
theorem run_step {s:ByteArray} {l:List UInt8} (hl:s.data.toList=l) {a k:Nat} (h:k<s.size) (ha:a≤k) (hall:((l.drop a).take (k - a)).all isN=true) (hc:isN s[k]=true):((l.drop a).take (k+1 - a)).all isN=true:=by
 subst hl
 have e:(s.data.toList.drop a).take (k+1 - a)=(s.data.toList.drop a).take (k - a)++[s[k]]:=by
  rw [show k+1 - a=(k - a)+1 by omega,List.take_add_one,List.getElem?_drop,show a+(k - a)=k by omega,Lib.data_getElem? s k h];rfl
 rw [e,List.all_append,hall]
 simp [hc]
theorem run_stop {s:ByteArray} {l:List UInt8} (hl:s.data.toList=l) {a k:Nat} (ha:a≤k) (hall:((l.drop a).take (k - a)).all isN=true) (hstop:∀ h:k<s.size,isN s[k]=false):run l a=(l.drop a).take (k - a):=by
 subst hl
 have e:s.data.toList.drop a=(s.data.toList.drop a).take (k - a)++s.data.toList.drop k:=by
  rw [show s.data.toList.drop k=(s.data.toList.drop a).drop (k - a) by rw [List.drop_drop];congr 1;omega,List.take_append_drop]
 have e2:(s.data.toList.drop k).takeWhile isN=[]:=by
  by_cases h:k<s.size
  ·rw [List.drop_eq_getElem_cons (by rw [size_len];exact h),List.takeWhile_cons]
   have:s.data.toList[k]'(by rw [size_len];exact h)=s[k]:=rfl
   rw [this,hstop h];rfl
  ·rw [List.drop_eq_nil_of_le (by rw [size_len];omega)];rfl
 unfold run
 rw [List.all_eq_true] at hall
 generalize (s.data.toList.drop a).take (k - a)=X at *
 rw [e,List.takeWhile_append_of_pos hall,e2,List.append_nil]
end Nm
theorem not_isN {c:UInt8} (h:Nm.isN c=false):((c.toNat:Int) == 48)=false∧((c.toNat:Int) == 49)=false∧((c.toNat:Int) == 50)=false∧((c.toNat:Int) == 51)=false∧((c.toNat:Int) == 52)=false∧((c.toNat:Int) == 53)=false∧((c.toNat:Int) == 54)=false∧((c.toNat:Int) == 55)=false∧((c.toNat:Int) == 56)=false∧((c.toNat:Int) == 57)=false∧((c.toNat:Int) == 45)=false∧((c.toNat:Int) == 43)=false∧((c.toNat:Int) == 46)=false∧((c.toNat:Int) == 101)=false∧((c.toNat:Int) == 69)=false:=by
 simp only [Nm.isN,Nm.dg,Bool.or_eq_false_iff,Bool.and_eq_false_iff,beq_eq_false_iff_ne,decide_eq_false_iff_not,ne_eq] at h ⊢
 omega
theorem isN_none {c:UInt8} (h48:((c.toNat:Int) == 48)=false) (h49:((c.toNat:Int) == 49)=false) (h50:((c.toNat:Int) == 50)=false) (h51:((c.toNat:Int) == 51)=false) (h52:((c.toNat:Int) == 52)=false) (h53:((c.toNat:Int) == 53)=false) (h54:((c.toNat:Int) == 54)=false) (h55:((c.toNat:Int) == 55)=false) (h56:((c.toNat:Int) == 56)=false) (h57:((c.toNat:Int) == 57)=false) (h45:((c.toNat:Int) == 45)=false) (h43:((c.toNat:Int) == 43)=false) (h46:((c.toNat:Int) == 46)=false) (h101:((c.toNat:Int) == 101)=false) (h69:((c.toNat:Int) == 69)=false):Nm.isN c=false:=by
 simp only [Nm.isN,Nm.dg,Bool.or_eq_false_iff,Bool.and_eq_false_iff,beq_eq_false_iff_ne,decide_eq_false_iff_not,ne_eq] at *
 omega
def readP (l:List UInt8) (at_:Int):Int × Int × Int :=
 if at_<0∨(l.length:Int)<at_ then (0,0,1)
 else if Nm.form (Nm.run l at_.toNat)=false then (0,0,3)
 else if -9223372036854775808≤Nm.val (Nm.run l at_.toNat)∧Nm.val (Nm.run l at_.toNat)≤9223372036854775807 then (Nm.val (Nm.run l at_.toNat),at_+(Nm.run l at_.toNat).length,0)
 else (0,0,9)
theorem readP_in {l:List UInt8} {a:Nat} (h:a≤l.length):readP l a=if Nm.form (Nm.run l a)=false then (0,0,3) else if -9223372036854775808≤Nm.val (Nm.run l a)∧Nm.val (Nm.run l a)≤9223372036854775807 then (Nm.val (Nm.run l a),(a:Int)+(Nm.run l a).length,0) else (0,0,9):=by
 rw [readP,if_neg (by omega),Int.toNat_natCast]
theorem below_bytes {w:World} {r:World} (h:r=w∨∃ t,r=Lib.bytesWorld w 5 t):Below w.heap.size w r:=by
 rcases h with rfl | ⟨t,rfl⟩
 ·exact Below.refl _ _
 ·exact Lib.bytesWorld_below _ _ _
theorem ret3 {a a' b b' c c':Int} (h1:a=a') (h2:b=b') (h3:c=c'):Ending.returned (.tuple #[.int .i64 a,.int .i64 b,.int .i64 c])=.returned (.tuple #[.int .i64 a',.int .i64 b',.int .i64 c']):=by rw [h1,h2,h3]
theorem Read_in (s:ByteArray) (a:Nat) (w:World) (hs:s.size≤281474976710656) (ha:a≤s.size) (henv:NumEnv w) (r1 r2 r3:Int) (hr:Hid (readP s.data.toList a=(r1,r2,r3))) :
 Calls Tryz.prog 152 #[.string s,.int .i64 a] w fun e w'=>e=.returned (.tuple #[.int .i64 r1,.int .i64 r2,.int .i64 r3])∧Below w.heap.size w w':=by
 go_enter Tryz.func152,Tryz.ntmps152
 go_wp2
 go_step3
 go_wp2
 go_step3
 go_wp2
 go_loop [7] (fun i=>∃ k:Nat,k≤s.size∧a≤k∧i=.int .i64 k∧Hid (((s.data.toList.drop a).take (k - a)).all Nm.isN=true)) (fun i=>s.size - (intOf i).toNat)
 case atStart=>exact ⟨a,ha,Nat.le_refl _,rfl,by simp [Hid]⟩
 case round =>
  obtain ⟨k,hk,hak,rfl,HA⟩:=hrel
  by_cases hlt:k<s.size
  ·by_cases hN:Nm.isN s[k]=true
   ·have HN:=Lib.hid hN
    clear hN
    go_wp2_with fail
    all_goals first
     | (refine ⟨⟨k+1,by omega,by omega,by go_num,Nm.run_step rfl hlt hak HA.out HN.out⟩,?_⟩;simp [intOf];omega)
     | (exfalso;have hno:=isN_none (c:=s[k]) (by assumption) (by assumption) (by assumption) (by assumption) (by assumption) (by assumption) (by assumption) (by assumption) (by assumption) (by assumption) (by assumption) (by assumption) (by assumption) (by assumption) (by assumption);rw [HN.out] at hno;cases hno)
   ·have HS:Hid (Nm.run s.data.toList a=(s.data.toList.drop a).take (k - a)):=Nm.run_stop rfl hak HA.out (fun _=>by simpa using hN)
    obtain ⟨h1,h2,h3,h4,h5,h6,h7,h8,h9,h10,h11,h12,h13,h14,h15⟩:=not_isN (by simpa using hN)
    go_wp2_with fail
    clear h1 h2 h3 h4 h5 h6 h7 h8 h9 h10 h11 h12 h13 h14 h15 hN
    refine (formed_any _ _ ?_).mono ?_
    ·rw [ByteArray.size_extract];unfold maxLen;omega
    rintro e w' ⟨rfl,rfl⟩
    have hx:(s.extract a k).data.toList=Nm.run s.data.toList a:=by rw [Lib.extract_data,HS.out]
    have hxl:(Nm.run s.data.toList a).length=k - a:=by rw [HS.out,List.length_take,List.length_drop,size_len];omega
    rw [hx]
    have HX:=Lib.hid hx
    have HL:=Lib.hid hxl
    clear hx hxl
    have hl:a≤s.data.toList.length:=by rw [size_len];exact ha
    have hR:=Lib.hid (readP_in hl)
    clear hl
    by_cases hf:Nm.form (Nm.run s.data.toList a)=true
    ·have HP:=Lib.hid (Nm.parse_form hf)
     have hff:¬ Nm.form (Nm.run s.data.toList a)=false:=by simp [hf]
     go_wp2_with fail
     by_cases hv:-9223372036854775808≤Nm.val (Nm.run s.data.toList a)∧Nm.val (Nm.run s.data.toList a)≤9223372036854775807
     ·refine (Tryz.strconv_ParseInt_10_at64_ok _ ?_ (Nm.val (Nm.run s.data.toList a)) ?_ _).mono ?_
      ·rw [ByteArray.size_extract];omega
      ·rw [HX.out,HP.out,if_pos hv]
      rintro e w' ⟨rfl,hb⟩
      have hb':=below_bytes hb
      clear hb
      have e:=hr.out.symm.trans hR.out
      rw [if_neg hff,if_pos hv,HL.out] at e
      have HE:=Lib.hid e
      clear e hv
      go_wp2_with fail
      rw [Exit.noGoto_ret]
      go_ret3
      have e:=HE.out
      simp only [Prod.mk.injEq] at e
      obtain ⟨rfl,rfl,rfl⟩:=e
      refine ⟨ret3 rfl (by omega) rfl,hb'⟩
     ·obtain ⟨tp,p,hp⟩:=henv.range
      refine (Tryz.strconv_ParseInt_10_at64_range_var _ ?_ ?_ tp p _ hp).mono ?_
      ·rw [ByteArray.size_extract];omega
      ·rw [HX.out,HP.out,if_neg hv]
      rintro e w' ⟨N,rfl,_,_,hb'⟩
      have e:=hr.out.symm.trans hR.out
      rw [if_neg hff,if_neg hv] at e
      have HE:=Lib.hid e
      clear e hv
      go_wp2_with fail
      rw [Exit.noGoto_ret]
      go_ret3
      have e:=HE.out
      simp only [Prod.mk.injEq] at e
      obtain ⟨rfl,rfl,rfl⟩:=e
      exact ⟨rfl,hb'⟩
    ·have hff:Nm.form (Nm.run s.data.toList a)=false:=by simpa using hf
     have e:=hr.out.symm.trans hR.out
     rw [if_pos hff] at e
     have HE:=Lib.hid e
     clear e
     go_wp2_with fail
     rw [Exit.noGoto_ret]
     go_ret3
     have e:=HE.out
     simp only [Prod.mk.injEq] at e
     obtain ⟨rfl,rfl,rfl⟩:=e
     exact ⟨rfl,Below.refl _ _⟩
  ·have HS:Hid (Nm.run s.data.toList a=(s.data.toList.drop a).take (k - a)):=Nm.run_stop rfl hak HA.out (fun h=>absurd h hlt)
   go_wp2_with fail
   refine (formed_any _ _ ?_).mono ?_
   ·rw [ByteArray.size_extract];unfold maxLen;omega
   rintro e w' ⟨rfl,rfl⟩
   have hx:(s.extract a k).data.toList=Nm.run s.data.toList a:=by rw [Lib.extract_data,HS.out]
   have hxl:(Nm.run s.data.toList a).length=k - a:=by rw [HS.out,List.length_take,List.length_drop,size_len];omega
   rw [hx]
   have HX:=Lib.hid hx
   have HL:=Lib.hid hxl
   clear hx hxl
   have hl:a≤s.data.toList.length:=by rw [size_len];exact ha
   have hR:=Lib.hid (readP_in hl)
   clear hl
   by_cases hf:Nm.form (Nm.run s.data.toList a)=true
   ·have HP:=Lib.hid (Nm.parse_form hf)
    have hff:¬ Nm.form (Nm.run s.data.toList a)=false:=by simp [hf]
    go_wp2_with fail
    by_cases hv:-9223372036854775808≤Nm.val (Nm.run s.data.toList a)∧Nm.val (Nm.run s.data.toList a)≤9223372036854775807
    ·refine (Tryz.strconv_ParseInt_10_at64_ok _ ?_ (Nm.val (Nm.run s.data.toList a)) ?_ _).mono ?_
     ·rw [ByteArray.size_extract];omega
     ·rw [HX.out,HP.out,if_pos hv]
     rintro e w' ⟨rfl,hb⟩
     have hb':=below_bytes hb
     clear hb
     have e:=hr.out.symm.trans hR.out
     rw [if_neg hff,if_pos hv,HL.out] at e
     have HE:=Lib.hid e
     clear e hv
     go_wp2_with fail
     rw [Exit.noGoto_ret]
     go_ret3
     have e:=HE.out
     simp only [Prod.mk.injEq] at e
     obtain ⟨rfl,rfl,rfl⟩:=e
     refine ⟨ret3 rfl (by omega) rfl,hb'⟩
    ·obtain ⟨tp,p,hp⟩:=henv.range
     refine (Tryz.strconv_ParseInt_10_at64_range_var _ ?_ ?_ tp p _ hp).mono ?_
     ·rw [ByteArray.size_extract];omega
     ·rw [HX.out,HP.out,if_neg hv]
     rintro e w' ⟨N,rfl,_,_,hb'⟩
     have e:=hr.out.symm.trans hR.out
     rw [if_neg hff,if_neg hv] at e
     have HE:=Lib.hid e
     clear e hv
     go_wp2_with fail
     rw [Exit.noGoto_ret]
     go_ret3
     have e:=HE.out
     simp only [Prod.mk.injEq] at e
     obtain ⟨rfl,rfl,rfl⟩:=e
     exact ⟨rfl,hb'⟩
   ·have hff:Nm.form (Nm.run s.data.toList a)=false:=by simpa using hf
    have e:=hr.out.symm.trans hR.out
    rw [if_pos hff] at e
    have HE:=Lib.hid e
    clear e
    go_wp2_with fail
    rw [Exit.noGoto_ret]
    go_ret3
    have e:=HE.out
    simp only [Prod.mk.injEq] at e
    obtain ⟨rfl,rfl,rfl⟩:=e
    exact ⟨rfl,Below.refl _ _⟩
end

section
open Go.RowKit
def hexV (c:UInt8):Int:=if 48≤c.toNat∧c.toNat≤57 then (c.toNat:Int) - 48 else if 97≤c.toNat∧c.toNat≤102 then (c.toNat:Int) - 87 else if 65≤c.toNat∧c.toNat≤70 then (c.toNat:Int) - 55 else -1
theorem hexV_bd (c:UInt8):-1≤hexV c∧hexV c≤15:=by unfold hexV;split;omega;split;omega;split <;> omega
def fourGo:Nat→Int→List UInt8→Int × Int
 | 0,n,_=>(n,0)
 | _+1,_,[]=>(0,4)
 | k+1,n,c :: r=>if hexV c<0 then (0,3) else fourGo k (16*n+hexV c) r
def fourP (l:List UInt8):Int × Int:=fourGo 4 0 l
def pairQ (n:Int):List UInt8→Int × Nat × Int
 | []=>(0,0,4)
 | b :: r2=>if b.toNat≠117 then (0,0,12) else if (fourP r2).2≠0 then (0,0,(fourP r2).2) else if (fourP r2).1<56320∨57343<(fourP r2).1 then (0,0,12) else (65536+(n - 55296)*1024+((fourP r2).1 - 56320),10,0)
def pairP (n:Int):List UInt8→Int × Nat × Int
 | []=>(0,0,4)
 | a :: r1=>if a.toNat≠92 then (0,0,12) else pairQ n r1
def codedP (l:List UInt8):Int × Nat × Int :=
 if (fourP l).2≠0 then (0,0,(fourP l).2)
 else if (fourP l).1<55296∨57343<(fourP l).1 then ((fourP l).1,4,0)
 else if 56320≤(fourP l).1 then (0,0,12)
 else pairP (fourP l).1 (l.drop 4)
def escV (c:UInt8):Int:=if c.toNat=34∨c.toNat=92∨c.toNat=47 then (c.toNat:Int) else if c.toNat=98 then 8 else if c.toNat=102 then 12 else if c.toNat=110 then 10 else if c.toNat=114 then 13 else if c.toNat=116 then 9 else -1
def escP:List UInt8→Int × Nat × Int
 | []=>(0,0,4)
 | c :: r=>if c.toNat=117 then (if (codedP r).2.2≠0 then (0,0,(codedP r).2.2) else ((codedP r).1,(codedP r).2.1+1,0)) else if escV c<0 then (0,0,3) else (escV c,1,0)
def itemP:List UInt8→Int × Nat × Int
 | []=>(0,0,4)
 | c :: r=>if c.toNat<32 then (0,0,3) else if c.toNat≠92 then (if (nextP (c :: r)).2.2≠0 then (0,0,(nextP (c :: r)).2.2) else ((nextP (c :: r)).1,(nextP (c :: r)).2.1.toNat,0)) else if (escP r).2.2≠0 then (0,0,(escP r).2.2) else ((escP r).1,(escP r).2.1+1,0)
def encP (r:Int):List UInt8 :=
 if r<128 then [UInt8.ofNat r.toNat]
 else if r<2048 then [UInt8.ofNat (192+r.toNat / 64),UInt8.ofNat (128+r.toNat % 64)]
 else if r<65536 then [UInt8.ofNat (224+r.toNat / 4096),UInt8.ofNat (128+r.toNat / 64 % 64),UInt8.ofNat (128+r.toNat % 64)]
 else [UInt8.ofNat (240+r.toNat / 262144),UInt8.ofNat (128+r.toNat / 4096 % 64),UInt8.ofNat (128+r.toNat / 64 % 64),UInt8.ofNat (128+r.toNat % 64)]
def isRune (r:Int):Prop:=0≤r∧r≤1114111∧¬ (55296≤r∧r≤57343)
def strGo:Nat→List UInt8→List UInt8→List UInt8 × Nat × Int
 | 0,_,_=>([],0,4)
 | _+1,[],_=>([],0,4)
 | f+1,c :: r,out =>
   if c.toNat=34 then (out,1,0)
   else if (itemP (c :: r)).2.2≠0 then ([],0,(itemP (c :: r)).2.2)
   else if 4096<out.length+(encP (itemP (c :: r)).1).length then ([],0,5)
   else if (strGo f ((c :: r).drop (itemP (c :: r)).2.1) (out++encP (itemP (c :: r)).1)).2.2≠0 then ([],0,(strGo f ((c :: r).drop (itemP (c :: r)).2.1) (out++encP (itemP (c :: r)).1)).2.2)
   else ((strGo f ((c :: r).drop (itemP (c :: r)).2.1) (out++encP (itemP (c :: r)).1)).1,(strGo f ((c :: r).drop (itemP (c :: r)).2.1) (out++encP (itemP (c :: r)).1)).2.1+(itemP (c :: r)).2.1,0)
def strP (l:List UInt8):List UInt8 × Nat × Int:=strGo l.length l []
/-! What these are like. -/
theorem fourGo_bd:∀ (k:Nat) (n:Int) (l:List UInt8),0≤n→(fourGo k n l).2=0→0≤(fourGo k n l).1∧(fourGo k n l).1<16 ^ k*(n+1)∧k≤l.length
 | 0,n,l,h0,_=>by simp [fourGo];omega
 | k+1,n,[],h0,h=>by simp [fourGo] at h
 | k+1,n,c :: r,h0,h=>by
   rw [fourGo] at h ⊢
   have hb:=hexV_bd c
   by_cases hc:hexV c<0
   ·rw [if_pos hc] at h;simp at h
   ·rw [if_neg hc] at h ⊢
    obtain ⟨h1,h2,h3⟩:=fourGo_bd k (16*n+hexV c) r (by omega) h
    refine ⟨h1,?_,by simp;omega⟩
    have e:(16:Int) ^ (k+1)*(n+1)=16 ^ k*(16*(n+1)):=by rw [Int.pow_succ,Int.mul_assoc]
    rw [e]
    refine Int.lt_of_lt_of_le h2 (Int.mul_le_mul_of_nonneg_left (by omega) (by exact Int.le_of_lt (Int.pow_pos (by decide))))
theorem fourP_bd (l:List UInt8) (h:(fourP l).2=0):0≤(fourP l).1∧(fourP l).1<65536∧4≤l.length:=by
 have:=fourGo_bd 4 0 l (by omega) h
 refine ⟨this.1,?_,this.2.2⟩
 have h2:=this.2.1
 show (fourGo 4 0 l).1<65536
 simpa using h2
theorem pairP_ok (n:Int) (l:List UInt8) (hn:55296≤n) (hn2:n<56320) (h:(pairP n l).2.2=0):65536≤(pairP n l).1∧(pairP n l).1≤1114111∧(pairP n l).2.1=10∧6≤l.length:=by
 match l with
 | []=>simp [pairP] at h
 | a :: r1 =>
   rw [pairP] at h ⊢
   by_cases ha:a.toNat≠92
   ·rw [if_pos ha] at h;simp at h
   ·rw [if_neg ha] at h ⊢
    match r1 with
    | []=>simp [pairQ] at h
    | b :: r2 =>
      rw [pairQ] at h ⊢
      by_cases hb:b.toNat≠117
      ·rw [if_pos hb] at h;simp at h
      ·rw [if_neg hb] at h ⊢
       by_cases hf:(fourP r2).2≠0
       ·rw [if_pos hf] at h;exact absurd h hf
       ·rw [if_neg hf] at h ⊢
        by_cases hm:(fourP r2).1<56320∨57343<(fourP r2).1
        ·rw [if_pos hm] at h;simp at h
        ·rw [if_neg hm]
         have:=fourP_bd r2 (by simpa using hf)
         simp only [List.length_cons]
         exact ⟨by omega,by omega,trivial,by omega⟩
theorem codedP_ok (l:List UInt8) (h:(codedP l).2.2=0):isRune (codedP l).1∧4≤(codedP l).2.1∧(codedP l).2.1≤l.length:=by
 unfold isRune
 rw [codedP] at h ⊢
 by_cases hf:(fourP l).2≠0
 ·rw [if_pos hf] at h;exact absurd h hf
 ·rw [if_neg hf] at h ⊢
  have hb:=fourP_bd l (by simpa using hf)
  by_cases h1:(fourP l).1<55296∨57343<(fourP l).1
  ·rw [if_pos h1]
   exact ⟨⟨hb.1,by omega,by omega⟩,by simp,by simp;omega⟩
  ·rw [if_neg h1] at h ⊢
   by_cases h2:56320≤(fourP l).1
   ·rw [if_pos h2] at h;simp at h
   ·rw [if_neg h2] at h ⊢
    obtain ⟨a,b,c,d⟩:=pairP_ok _ _ (by omega) (by omega) h
    rw [List.length_drop] at d
    exact ⟨⟨by omega,b,by omega⟩,by omega,by omega⟩
theorem escV_ok (c:UInt8) (h:¬ escV c<0):0≤escV c∧escV c<128:=by
 unfold escV at h ⊢
 have:=u8_lt c
 repeat' split at h
 all_goals simp_all
 all_goals omega
theorem escP_ok (l:List UInt8) (h:(escP l).2.2=0):isRune (escP l).1∧1≤(escP l).2.1∧(escP l).2.1≤l.length:=by
 match l with
 | []=>simp [escP] at h
 | c :: r =>
   rw [escP] at h ⊢
   by_cases hu:c.toNat=117
   ·rw [if_pos hu] at h ⊢
    by_cases he:(codedP r).2.2≠0
    ·rw [if_pos he] at h;exact absurd h he
    ·rw [if_neg he]
     obtain ⟨a,b,d⟩:=codedP_ok r (by simpa using he)
     exact ⟨a,by simp,by simp;omega⟩
   ·rw [if_neg hu] at h ⊢
    by_cases hv:escV c<0
    ·rw [if_pos hv] at h;simp at h
    ·rw [if_neg hv]
     have:=escV_ok c hv
     exact ⟨⟨by omega,by simp only [];omega,by simp only [];omega⟩,by simp,by simp⟩
theorem nextP_rune (l:List UInt8) (h:(nextP l).2.2=0):isRune (nextP l).1:=by
 unfold isRune
 match l with
 | []=>simp [nextP] at h
 | c :: r =>
   have hc:=u8_lt c
   by_cases h1:c.toNat<128
   ·rw [next1 r h1];exact ⟨by simp only [];omega,by simp only [];omega,by simp only [];omega⟩
   ·by_cases h2:c.toNat<194∨244<c.toNat
    ·rw [next_bad r h1 h2] at h;simp at h
    ·by_cases h3:c.toNat<224
     ·rw [next2 r (by omega) h3] at h ⊢
      match r with
      | []=>simp [next2P] at h
      | d :: r =>
        rw [next2P] at h ⊢
        split at h
        ·simp at h
        ·rename_i hd;rw [if_neg hd];exact ⟨by simp only [];omega,by simp only [];omega,by simp only [];omega⟩
     ·by_cases h5:c.toNat<240
      ·rw [next3 r h3 h5] at h ⊢
       match r with
       | []=>simp [next3P] at h
       | d :: r =>
         rw [next3P] at h ⊢
         split at h
         ·rename_i hd
          rw [if_pos hd]
          unfold ok3 at hd
          match r with
          | []=>simp [next3Q] at h
          | e :: r =>
            rw [next3Q] at h ⊢
            split at h
            ·simp at h
            ·rename_i he;rw [if_neg he];exact ⟨by simp only [];omega,by simp only [];omega,by simp only [];omega⟩
         ·simp at h
      ·rw [next4 r h5 (by omega)] at h ⊢
       match r with
       | []=>simp [next4P] at h
       | d :: r =>
         rw [next4P] at h ⊢
         split at h
         ·rename_i hd
          rw [if_pos hd]
          unfold ok4 at hd
          match r with
          | []=>simp [next4Q] at h
          | e :: r =>
            rw [next4Q] at h ⊢
            split at h
            ·simp at h
            ·rename_i he
             rw [if_neg he]
             match r with
             | []=>simp [next4R] at h
             | f :: r =>
               rw [next4R] at h ⊢
               split at h
               ·simp at h
               ·rename_i hf;rw [if_neg hf];exact ⟨by simp only [];omega,by simp only [];omega,by simp only [];omega⟩
         ·simp at h
theorem itemP_ok (l:List UInt8) (h:(itemP l).2.2=0):isRune (itemP l).1∧1≤(itemP l).2.1∧(itemP l).2.1≤l.length:=by
 match l with
 | []=>simp [itemP] at h
 | c :: r =>
   rw [itemP] at h ⊢
   by_cases h1:c.toNat<32
   ·rw [if_pos h1] at h;simp at h
   ·rw [if_neg h1] at h ⊢
    by_cases h2:c.toNat≠92
    ·rw [if_pos h2] at h ⊢
     by_cases he:(nextP (c :: r)).2.2≠0
     ·rw [if_pos he] at h;exact absurd h he
     ·rw [if_neg he]
      have h0:(nextP (c :: r)).2.2=0:=by simpa using he
      obtain ⟨a,b⟩:=next_size (c :: r) h0
      exact ⟨nextP_rune _ h0,by simp only [];omega,by simp only [];omega⟩
    ·rw [if_neg h2] at h ⊢
     by_cases he:(escP r).2.2≠0
     ·rw [if_pos he] at h;exact absurd h he
     ·rw [if_neg he]
      obtain ⟨a,b,d⟩:=escP_ok r (by simpa using he)
      exact ⟨a,by simp,by simp;omega⟩
theorem encP_len (r:Int):1≤(encP r).length∧(encP r).length≤4:=by
 unfold encP
 repeat' split
 all_goals simp
theorem strGo_fuel:∀ (f g:Nat) (l out:List UInt8),l.length≤f→l.length≤g→strGo f l out=strGo g l out
 | 0,0,_,_,_,_=>rfl
 | 0,g+1,[],out,_,_=>rfl
 | f+1,0,[],out,_,_=>rfl
 | f+1,g+1,[],out,_,_=>rfl
 | f+1,g+1,c :: r,out,hf,hg=>by
   rw [strGo,strGo]
   by_cases h1:c.toNat=34
   ·rw [if_pos h1,if_pos h1]
   ·rw [if_neg h1,if_neg h1]
    by_cases h2:(itemP (c :: r)).2.2≠0
    ·rw [if_pos h2,if_pos h2]
    ·rw [if_neg h2,if_neg h2]
     obtain ⟨a,b,d⟩:=itemP_ok (c :: r) (by simpa using h2)
     have e:=strGo_fuel f g ((c :: r).drop (itemP (c :: r)).2.1) (out++encP (itemP (c :: r)).1) (by rw [List.length_drop];simp at hf ⊢;omega) (by rw [List.length_drop];simp at hg ⊢;omega)
     rw [e]
theorem strGo_step (f:Nat) (c:UInt8) (r out:List UInt8) (hf:(c :: r).length≤f) :
 strGo f (c :: r) out=if c.toNat=34 then (out,1,0) else if (itemP (c :: r)).2.2≠0 then ([],0,(itemP (c :: r)).2.2) else if 4096<out.length+(encP (itemP (c :: r)).1).length then ([],0,5)
  else if (strGo f ((c :: r).drop (itemP (c :: r)).2.1) (out++encP (itemP (c :: r)).1)).2.2≠0 then ([],0,(strGo f ((c :: r).drop (itemP (c :: r)).2.1) (out++encP (itemP (c :: r)).1)).2.2)
  else ((strGo f ((c :: r).drop (itemP (c :: r)).2.1) (out++encP (itemP (c :: r)).1)).1,(strGo f ((c :: r).drop (itemP (c :: r)).2.1) (out++encP (itemP (c :: r)).1)).2.1+(itemP (c :: r)).2.1,0):=by
 match f,hf with
 | f+1,hf =>
   by_cases h1:c.toNat=34
   ·rw [strGo,if_pos h1,if_pos h1]
   ·by_cases h2:(itemP (c :: r)).2.2≠0
    ·rw [strGo,if_neg h1,if_neg h1,if_pos h2,if_pos h2]
    ·obtain ⟨a,b,d⟩:=itemP_ok (c :: r) (by simpa using h2)
     have e:=strGo_fuel f (f+1) ((c :: r).drop (itemP (c :: r)).2.1) (out++encP (itemP (c :: r)).1) (by rw [List.length_drop];simp at hf ⊢;omega) (by rw [List.length_drop];simp at hf ⊢;omega)
     rw [← e,strGo]
theorem strGo_ok:∀ (f:Nat) (l out:List UInt8),(strGo f l out).2.2=0→1≤(strGo f l out).2.1∧(strGo f l out).2.1≤l.length
 | 0,_,_,h=>by simp [strGo] at h
 | f+1,[],_,h=>by simp [strGo] at h
 | f+1,c :: r,out,h=>by
   rw [strGo] at h ⊢
   by_cases h1:c.toNat=34
   ·rw [if_pos h1];simp
   ·rw [if_neg h1] at h ⊢
    by_cases h2:(itemP (c :: r)).2.2≠0
    ·rw [if_pos h2] at h;exact absurd h h2
    ·rw [if_neg h2] at h ⊢
     obtain ⟨a,b,d⟩:=itemP_ok (c :: r) (by simpa using h2)
     by_cases h3:4096<out.length+(encP (itemP (c :: r)).1).length
     ·rw [if_pos h3] at h;simp at h
     ·rw [if_neg h3] at h ⊢
      by_cases h4:(strGo f ((c :: r).drop (itemP (c :: r)).2.1) (out++encP (itemP (c :: r)).1)).2.2≠0
      ·rw [if_pos h4] at h;exact absurd h h4
      ·rw [if_neg h4]
       obtain ⟨x,y⟩:=strGo_ok f _ _ (by simpa using h4)
       rw [List.length_drop] at y
       simp only [] at y ⊢
       exact ⟨by omega,by omega⟩
/-! The marks. -/
def isBlank (c:UInt8):Bool:=c.toNat == 32 || c.toNat == 9 || c.toNat == 10 || c.toNat == 13
def isLow (c:UInt8):Bool:=decide (97≤c.toNat) && decide (c.toNat≤122)
def blanks (l:List UInt8):Nat:=(l.takeWhile isBlank).length
structure Tok where
 k:Int
 len:Nat
 n:Int
 t:List UInt8
 e:Int
def Tok.bad (e:Int):Tok:=⟨0,0,0,[],e⟩
def numP (l:List UInt8):Tok :=
 if Nm.form (l.takeWhile Nm.isN)=false then .bad 3
 else if -9223372036854775808≤Nm.val (l.takeWhile Nm.isN)∧Nm.val (l.takeWhile Nm.isN)≤9223372036854775807 then ⟨9,(l.takeWhile Nm.isN).length,Nm.val (l.takeWhile Nm.isN),[],0⟩
 else .bad 9
def wordP (l:List UInt8):Tok :=
 if l.takeWhile isLow=[116,114,117,101] then ⟨7,4,0,[],0⟩
 else if l.takeWhile isLow=[102,97,108,115,101] then ⟨8,5,0,[],0⟩
 else .bad 3
def signOf (c:UInt8):Int:=if c.toNat=123 then 1 else if c.toNat=125 then 2 else if c.toNat=91 then 3 else if c.toNat=93 then 4 else if c.toNat=44 then 5 else if c.toNat=58 then 6 else 0
def textP (r:List UInt8):Tok:=if (strP r).2.2≠0 then .bad (strP r).2.2 else ⟨10,(strP r).2.1+1,0,(strP r).1,0⟩
def numFirst (c:UInt8):Bool:=Nm.dg c || c.toNat == 45 || c.toNat == 43 || c.toNat == 46
def tokP:List UInt8→Tok
 | []=>⟨11,0,0,[],0⟩
 | c :: r =>
   if signOf c≠0 then ⟨signOf c,1,0,[],0⟩
   else if c.toNat=34 then textP r
   else if numFirst c then numP (c :: r)
   else wordP (c :: r)
end
end Go.Proofs.YtchinankclckjaaGreatDoor
