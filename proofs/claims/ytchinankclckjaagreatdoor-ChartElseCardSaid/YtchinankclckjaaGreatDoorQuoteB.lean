/-
  quote.Read, from its digits on. quote.four: the number of four hexadecimal digits. quote.coded: what is said behind a backslash and a u. quote.decoder, quote.item.
  quote.item: the rune that stands, or is said, at a place of a quoted string. quote.Read: the string that begins at a place of a text.
-/
import Derived.Test.YtchinankclckjaaGreatDoorLexPlain
import Derived.Test.YtchinankclckjaaGreatDoorBuildA
import Derived.Test.YtchinankclckjaaGreatDoorValA
import Derived.Laws.EntriesVeiled
import Derived.Test.YtchinankclckjaaGreatDoorLexP
namespace Go.Proofs.YtchinankclckjaaGreatDoor
set_option maxHeartbeats 4000000
section
set_option maxRecDepth 100000
section
open Go.RowKit
theorem ret_ib {a a':Int} {b b':Bool} (h1:a=a') (h2:b=b'):Ending.returned (.tuple #[.int .i64 a,.bool b])=.returned (.tuple #[.int .i64 a',.bool b']):=by rw [h1,h2]
theorem hexV_1 {c:UInt8} (h:48≤c.toNat∧c.toNat≤57):hexV c=(c.toNat:Int) - 48:=by unfold hexV;rw [if_pos h]
theorem hexV_2 {c:UInt8} (h:97≤c.toNat∧c.toNat≤102):hexV c=(c.toNat:Int) - 87:=by unfold hexV;rw [if_neg (by omega),if_pos h]
theorem hexV_3 {c:UInt8} (h:65≤c.toNat∧c.toNat≤70):hexV c=(c.toNat:Int) - 55:=by unfold hexV;rw [if_neg (by omega),if_neg (by omega),if_pos h]
theorem hexV_0 {c:UInt8} (h1:¬ (48≤c.toNat∧c.toNat≤57)) (h2:¬ (97≤c.toNat∧c.toNat≤102)) (h3:¬ (65≤c.toNat∧c.toNat≤70)):hexV c = -1:=by unfold hexV;rw [if_neg h1,if_neg h2,if_neg h3]
def digR (c:UInt8):Value:=.tuple #[.int .i64 (if hexV c<0 then 0 else hexV c),.bool (!decide (hexV c<0))]
theorem digR_yes {c:UInt8} {v:Int} (h:hexV c=v) (hv:0≤v):digR c=.tuple #[.int .i64 v,.bool true]:=by
 unfold digR;rw [h,if_neg (by omega),decide_eq_false (by omega)];rfl
theorem digR_no {c:UInt8} (h:hexV c = -1):digR c=.tuple #[.int .i64 0,.bool false]:=by
 unfold digR;rw [h];rfl
theorem hexDigit_any (s:ByteArray) (a:Nat) (w:World) (_hs:s.size≤281474976710656) (h:a<s.size) (hn:¬ (65≤s[a].toNat∧s[a].toNat≤70)) :
 Calls Tryz.prog 200 #[.string s,.int .i64 a] w fun e w'=>e=.returned (digR s[a])∧w=w':=by
 have hc:=u8_lt s[a]
 have d1:(s[a].toNat:Int)≤255:=by omega
 have d2:(0:Int)≤(s[a].toNat:Int):=by omega
 have d3:¬ (s.size:Int)≤(a:Int):=by omega
 by_cases h1:48≤s[a].toNat∧s[a].toNat≤57
 ·rw [digR_yes (hexV_1 h1) (by omega)]
  have e1:(48:Int)≤(s[a].toNat:Int):=by omega
  have e2:(s[a].toNat:Int)≤57:=by omega
  clear h1 hn hc
  go_enter Tryz.func200,Tryz.ntmps200
  go_wp2_with fail
  go_ret2
  exact ⟨rfl,rfl⟩
 ·by_cases h2:97≤s[a].toNat∧s[a].toNat≤102
  ·rw [digR_yes (hexV_2 h2) (by omega)]
   have e0:¬ (s[a].toNat:Int)≤57:=by omega
   have e1:(97:Int)≤(s[a].toNat:Int):=by omega
   have e2:(s[a].toNat:Int)≤102:=by omega
   clear h1 h2 hn hc
   go_enter Tryz.func200,Tryz.ntmps200
   go_wp2_with fail
   go_ret2
   exact ⟨ret_ib (by omega) rfl,rfl⟩
  ·rw [digR_no (hexV_0 h1 h2 hn)]
   have k1:¬ ((48:Int)≤(s[a].toNat:Int)∧(s[a].toNat:Int)≤57):=by omega
   have k2:¬ ((97:Int)≤(s[a].toNat:Int)∧(s[a].toNat:Int)≤102):=by omega
   have k3:(48:Int)≤(s[a].toNat:Int)→¬ (s[a].toNat:Int)≤57:=by omega
   have HK:=Lib.hid (And.intro k1 k2)
   clear h1 h2 hn hc k1 k2 k3
   go_enter Tryz.func200,Tryz.ntmps200
   go_wp2_with fail
   all_goals first
    | (go_ret2;exact ⟨rfl,rfl⟩)
    | (exfalso;have:=HK.out;omega)
theorem quoteDigit_any (s:ByteArray) (a:Nat) (w:World) (hs:s.size≤281474976710656) (h:a<s.size) :
 Calls Tryz.prog 197 #[.string s,.int .i64 a] w fun e w'=>e=.returned (digR s[a])∧w=w':=by
 have hc:=u8_lt s[a]
 have d1:(s[a].toNat:Int)≤255:=by omega
 have d2:(0:Int)≤(s[a].toNat:Int):=by omega
 by_cases h1:65≤s[a].toNat∧s[a].toNat≤70
 ·rw [digR_yes (hexV_3 h1) (by omega)]
  have e1:(65:Int)≤(s[a].toNat:Int):=by omega
  have e2:(s[a].toNat:Int)≤70:=by omega
  clear h1 hc
  go_enter Tryz.func197,Tryz.ntmps197
  go_wp2_with fail
  go_ret2
  exact ⟨ret_ib (by omega) rfl,rfl⟩
 ·have hcall:=hexDigit_any s a w hs h h1
  have HC:=Lib.hid hcall
  obtain ⟨x,y,hxy⟩:∃ x y,digR s[a]=.tuple #[.int .i64 x,.bool y]:=⟨_,_,rfl⟩
  have HXY:=Lib.hid hxy
  have HK:=Lib.hid (show ¬ ((65:Int)≤(s[a].toNat:Int)∧(s[a].toNat:Int)≤70) by omega)
  rw [hxy]
  clear hcall hxy h1 hc
  go_enter Tryz.func197,Tryz.ntmps197
  go_wp2_with fail
  all_goals first
   | (exfalso;have:=HK.out;omega)
   | (refine HC.out.mono ?_
      rintro e w2 ⟨rfl,rfl⟩
      rw [HXY.out]
      go_wp2_with fail
      go_ret2
      exact ⟨rfl,rfl⟩)
theorem or_16 (n d:Nat) (hn:n<1000000) (hd:d<16):bits .or .i64 ((n:Int)*16) (d:Int)=(n:Int)*16+d:=by
 have h1:((n:Int)*16)=((n*16:Nat):Int):=by omega
 rw [h1]
 show IntKind.i64.wrap ((BitVec.ofInt 64 ((n*16:Nat):Int) ||| BitVec.ofInt 64 (d:Int)).toNat:Int)=_
 have e1:(BitVec.ofInt 64 ((n*16:Nat):Int)).toNat=n*16:=by
  rw [BitVec.ofInt_natCast,BitVec.toNat_ofNat];exact Nat.mod_eq_of_lt (by omega)
 have e2:(BitVec.ofInt 64 (d:Int)).toNat=d:=by
  rw [BitVec.ofInt_natCast,BitVec.toNat_ofNat];exact Nat.mod_eq_of_lt (by omega)
 rw [BitVec.toNat_or,e1,e2]
 have e3:n*16 ||| d=n*16+d:=by
  have:=Nat.two_pow_add_eq_or_of_lt (i:=4) (b:=d) (by omega) n
  rw [show (2:Nat) ^ 4*n=n*16 by omega] at this
  exact this.symm
 rw [e3,IntKind.wrap_i64]
 omega
def foldD (ds:List Nat):Nat:=ds.foldl (fun a d=>a*16+d) 0
theorem foldD_snoc (l:List Nat) (d:Nat):foldD (l++[d])=foldD l*16+d:=by simp [foldD]
theorem foldl_bd:∀ (l:List Nat) (a k:Nat),a<16 ^ k→(∀ d ∈ l,d<16)→l.foldl (fun a d=>a*16+d) a<16 ^ (k+l.length)
 | [],a,k,h,_=>by simpa using h
 | d :: r,a,k,h,hd=>by
   have h1:=hd d (by simp)
   have h2:=foldl_bd r (a*16+d) (k+1) (by rw [Nat.pow_succ];omega) (fun x hx=>hd x (by simp [hx]))
   rw [List.foldl_cons,List.length_cons,show k+(r.length+1)=k+1+r.length by omega]
   exact h2
theorem foldD_bd (l:List Nat) (h:∀ d ∈ l,d<16):foldD l<16 ^ l.length:=by
 have:=foldl_bd l 0 0 (by decide) h
 rwa [Nat.zero_add] at this
theorem quoteNumber_any (b cap:Nat) (ds:List Nat) (w:World) (hl:ds.length=4) (hd:∀ d ∈ ds,d<16) (hc:∀ (j d:Nat),ds[j]?=some d→w.cell? ⟨b,j,none⟩=some (.int .i64 (d:Int))) :
 Calls Tryz.prog 198 #[.slice (some ⟨b,0,none⟩) 4 cap] w fun e w'=>e=.returned (.int .i64 (foldD ds))∧w=w':=by
 have HL:=Lib.hid hl
 have HD:=Lib.hid hd
 have HC:=Lib.hid hc
 clear hl hd hc
 go_enter Tryz.func198,Tryz.ntmps198
 go_wp2_with fail
 go_loop [3,8] (fun n i=>∃ (j m:Nat),j≤4∧i=.int .i64 j∧n=.int .i64 m∧m<65536∧Hid (m=foldD (ds.take j))) (fun _ i=>4 - (intOf i).toNat)
 case atStart=>exact ⟨0,0,by omega,rfl,rfl,by omega,rfl⟩
 case round =>
  obtain ⟨j,m,hj,rfl,rfl,hm,HM⟩:=hrel
  by_cases hjl:j<4
  ·obtain ⟨d,hd⟩:∃ x,ds[j]?=some x:=⟨_,List.getElem?_eq_getElem (by rw [HL.out];exact hjl)⟩
   have hcell:=HC.out j d hd
   have hd16:=HD.out d (List.mem_of_getElem? hd)
   have hm2:m<4096:=by
    have h1:=foldD_bd (ds.take j) (fun x hx=>HD.out x (List.mem_of_mem_take hx))
    rw [← HM.out,List.length_take,HL.out] at h1
    have h2:(16:Nat) ^ min j 4≤16 ^ 3:=Nat.pow_le_pow_right (by decide) (by omega)
    omega
   have hor:=or_16 m d (by omega) hd16
   have hj0:(0:Int)≤(j:Int):=by omega
   have hj1:(j:Int)<4:=by omega
   have Hd:=Lib.hid hd
   clear hd
   go_wp2_with fail
   refine ⟨⟨j+1,m*16+d,by omega,by go_num,by go_num,by omega,?_⟩,by simp [intOf];omega⟩
   show m*16+d=_
   rw [List.take_add_one,Hd.out,HM.out]
   exact (foldD_snoc _ _).symm
  ·have hall:m=foldD ds:=by
    have:=HM.out
    rwa [List.take_of_length_le (by rw [HL.out];omega)] at this
   have HALL:=Lib.hid hall
   clear hall
   go_wp2_with fail
   go_ret
   exact ⟨ret_int (by rw [HALL.out]),rfl⟩
end
section
open Go.RowKit
theorem ret_ii {a a' b b':Int} (h1:a=a') (h2:b=b'):Ending.returned (.tuple #[.int .i64 a,.int .i64 b])=.returned (.tuple #[.int .i64 a',.int .i64 b']):=by rw [h1,h2]
theorem drop_none {s:ByteArray} {a:Nat} (h:s.size≤a):s.data.toList.drop a=[]:=List.drop_of_length_le (by rw [size_len];exact h)
theorem drop_at {s:ByteArray} {a:Nat} (h:a<s.size):s.data.toList.drop a=s[a] :: s.data.toList.drop (a+1):=by
 have h1:a<s.data.toList.length:=by rw [size_len];exact h
 rw [List.drop_eq_getElem_cons h1]
 rfl
theorem hexN {c:UInt8} (h:¬ hexV c<0):∃ d:Nat,hexV c=(d:Int)∧d<16:=by
 have:=hexV_bd c
 exact ⟨(hexV c).toNat,by omega,by omega⟩
theorem quoteFour_any (s:ByteArray) (a:Nat) (w:World) (hs:s.size≤281474976710656) (ha:a≤s.size) (r1 r2:Int) (hr:Hid (fourP (s.data.toList.drop a)=(r1,r2))) :
 Calls Tryz.prog 195 #[.string s,.int .i64 a] w fun e w'=>e=.returned (.tuple #[.int .i64 r1,.int .i64 r2])∧Below w.heap.size w w':=by
 go_enter Tryz.func195,Tryz.ntmps195
 go_wp2_with fail
 go_loopw [10] (fun i wr=>∃ (j n x0 x1 x2 x3:Nat),j≤4∧i=.int .i64 j∧x0<16∧x1<16∧x2<16∧x3<16∧a+j≤s.size∧n<65536∧Hid (fourGo (4 - j) n (s.data.toList.drop (a+j))=(r1,r2)∧n=foldD ([x0,x1,x2,x3].take j))∧wr=w.alloc (.cells #[.int .i64 x0,.int .i64 x1,.int .i64 x2,.int .i64 x3] 244)) (fun i _=>4 - (intOf i).toNat)
 case atStart=>exact ⟨0,0,0,0,0,0,by omega,rfl,by omega,by omega,by omega,by omega,by omega,by omega,⟨hr.out,rfl⟩,rfl⟩
 case round =>
  obtain ⟨j,n,x0,x1,x2,x3,hj,rfl,g0,g1,g2,g3,haj,hn,HR,rfl⟩:=hrel
  by_cases hjl:j<4
  ·by_cases hin:a+j<s.size
   ·have hdr:=drop_at hin
    have hcall:=fun W'=>quoteDigit_any s (a+j) W' hs hin
    have HC:=Lib.hid hcall
    have hq1:(a:Int)+(j:Int)<(s.size:Int):=by omega
    have hcast:((a+j:Nat):Int)=(a:Int)+(j:Int):=by omega
    by_cases hx:hexV s[a+j]<0
    ·have hx1:hexV s[a+j] = -1:=by have:=hexV_bd s[a+j];omega
     have hdg:=digR_no hx1
     have he:r1=0∧r2=3:=by
      have:=HR.out.1
      rw [hdr,show 4 - j=(3 - j)+1 by omega,fourGo,if_pos hx] at this
      simp only [Prod.mk.injEq] at this
      exact ⟨this.1.symm,this.2.symm⟩
     obtain ⟨rfl,rfl⟩:=he
     rw [hdg,hcast] at HC
     clear hdr hx hx1 hdg hcall hcast HR
     go_wp2_with fail
     refine (HC.out _).mono ?_
     rintro e w2 ⟨rfl,rfl⟩
     go_wp2_with fail
     go_ret2
     exact ⟨rfl,bel_alloc (Below.refl _ _) _⟩
    ·obtain ⟨d,hd,hd16⟩:=hexN hx
     have hdg:=digR_yes hd (by omega)
     have hst:=HR.out.1
     rw [hdr,show 4 - j=(3 - j)+1 by omega,fourGo,if_neg hx,hd] at hst
     have HST:=Lib.hid hst
     have HN:=Lib.hid HR.out.2
     rw [hdg,hcast] at HC
     clear hdr hx hd hdg hcall hcast hst HR
     have hj4:j=0∨j=1∨j=2∨j=3:=by omega
     have hnd:n*16+d<65536∨j=4:=by
      left
      have hb:foldD ([x0,x1,x2,x3].take j)<16 ^ ([x0,x1,x2,x3].take j).length:=foldD_bd _ (fun x hx=>by
       have:=List.mem_of_mem_take hx
       simp at this
       rcases this with rfl | rfl | rfl | rfl <;> assumption)
      rw [← HN.out,List.length_take] at hb
      have h2:(16:Nat) ^ min j ([x0,x1,x2,x3]:List Nat).length≤16 ^ 3:=Nat.pow_le_pow_right (by decide) (by simp;omega)
      omega
     rcases hj4 with rfl | rfl | rfl | rfl
     ·go_wp2_with fail
      refine (HC.out _).mono ?_
      rintro e w2 ⟨rfl,rfl⟩
      go_wp2_with fail
      refine ⟨⟨1,n*16+d,d,x1,x2,x3,by omega,rfl,hd16,g1,g2,g3,by omega,by omega,⟨?_,?_⟩,rfl⟩,by simp [intOf]⟩
      ·have:=HST.out
       rw [show (16*(n:Int)+(d:Int))=((n*16+d:Nat):Int) by omega] at this
       exact this
      ·rw [HN.out];rfl
     ·go_wp2_with fail
      refine (HC.out _).mono ?_
      rintro e w2 ⟨rfl,rfl⟩
      go_wp2_with fail
      refine ⟨⟨2,n*16+d,x0,d,x2,x3,by omega,rfl,g0,hd16,g2,g3,by omega,by omega,⟨?_,?_⟩,rfl⟩,by simp [intOf]⟩
      ·have:=HST.out
       rw [show (16*(n:Int)+(d:Int))=((n*16+d:Nat):Int) by omega] at this
       exact this
      ·rw [HN.out];rfl
     ·go_wp2_with fail
      refine (HC.out _).mono ?_
      rintro e w2 ⟨rfl,rfl⟩
      go_wp2_with fail
      refine ⟨⟨3,n*16+d,x0,x1,d,x3,by omega,rfl,g0,g1,hd16,g3,by omega,by omega,⟨?_,?_⟩,rfl⟩,by simp [intOf]⟩
      ·have:=HST.out
       rw [show (16*(n:Int)+(d:Int))=((n*16+d:Nat):Int) by omega] at this
       exact this
      ·rw [HN.out];rfl
     ·go_wp2_with fail
      refine (HC.out _).mono ?_
      rintro e w2 ⟨rfl,rfl⟩
      go_wp2_with fail
      refine ⟨⟨4,n*16+d,x0,x1,x2,d,by omega,rfl,g0,g1,g2,hd16,by omega,by omega,⟨?_,?_⟩,rfl⟩,by simp [intOf]⟩
      ·have:=HST.out
       rw [show (16*(n:Int)+(d:Int))=((n*16+d:Nat):Int) by omega] at this
       exact this
      ·rw [HN.out];rfl
   ·have he:r1=0∧r2=4:=by
     have:=HR.out.1
     rw [drop_none (by omega),show 4 - j=(3 - j)+1 by omega,fourGo] at this
     simp only [Prod.mk.injEq] at this
     exact ⟨this.1.symm,this.2.symm⟩
    obtain ⟨rfl,rfl⟩:=he
    have hq1:(s.size:Int)≤(a:Int)+(j:Int):=by omega
    clear HR
    go_wp2_with fail
    go_ret2
    exact ⟨rfl,bel_alloc (Below.refl _ _) _⟩
  ·obtain rfl:j=4:=by omega
   have he:r1=(n:Int)∧r2=0:=by
    have:=HR.out.1
    rw [show 4 - 4=0 from rfl,fourGo] at this
    simp only [Prod.mk.injEq] at this
    exact ⟨this.1.symm,this.2.symm⟩
   have HN:=Lib.hid HR.out.2
   obtain ⟨rfl,rfl⟩:=he
   have hcall:=fun W' hc=>quoteNumber_any (w.heap.size+1) 4 [x0,x1,x2,x3] W' rfl (by intro d hd;simp at hd;rcases hd with rfl | rfl | rfl | rfl <;> assumption) hc
   have HC:=Lib.hid hcall
   clear hcall HR
   go_wp2_with fail
   refine (HC.out _ ?_).mono ?_
   ·intro j d hj
    rw [cell_al_eq _ _ _ _ _ (by rw [size_al])]
    match j,hj with
    | 0,hj=>simp at hj;subst hj;rfl
    | 1,hj=>simp at hj;subst hj;rfl
    | 2,hj=>simp at hj;subst hj;rfl
    | 3,hj=>simp at hj;subst hj;rfl
   rintro e w2 ⟨rfl,rfl⟩
   go_wp2_with fail
   go_ret2
   refine ⟨ret_ii ?_ rfl,bel_alloc (bel_alloc (Below.refl _ _) _) _⟩
   rw [HN.out];rfl
end
section
open Go.RowKit
def codedR (a:Nat) (l:List UInt8):Int × Int × Int:=if (codedP l).2.2≠0 then (0,0,(codedP l).2.2) else ((codedP l).1,(a:Int)+(codedP l).2.1,0)
def pairE (n:Int) (l:List UInt8):Int × Nat × Int:=if (fourP l).2≠0 then (0,0,(fourP l).2) else if (fourP l).1<56320∨57343<(fourP l).1 then (0,0,12) else (65536+(n - 55296)*1024+((fourP l).1 - 56320),10,0)
def pairG (n:Int):Nat→List UInt8→Int × Nat × Int
 | 0,l=>pairP n l
 | 1,l=>pairQ n l
 | _,l=>pairE n l
def resP (a:Nat) (p:Int × Nat × Int):Int × Int × Int:=if p.2.2≠0 then (0,0,p.2.2) else (p.1,(a:Int)+p.2.1,0)
theorem resP_bad {a:Nat} {e r1 r2 r3:Int} (he:e≠0) (h:resP a (0,0,e)=(r1,r2,r3)):r1=0∧r2=0∧r3=e:=by
 unfold resP at h
 rw [if_pos he] at h
 simp only [Prod.mk.injEq] at h
 exact ⟨h.1.symm,h.2.1.symm,h.2.2.symm⟩
theorem coded_any (s:ByteArray) (a:Nat) (w:World) (hs:s.size≤281474976710656) (ha:a≤s.size) (r1 r2 r3:Int) (hr:Hid (codedR a (s.data.toList.drop a)=(r1,r2,r3))) :
 Calls Tryz.prog 187 #[.string s,.int .i64 a] w fun e w'=>e=.returned (.tuple #[.int .i64 r1,.int .i64 r2,.int .i64 r3])∧Below w.heap.size w w':=by
 obtain ⟨n,e,hf⟩:∃ n e,fourP (s.data.toList.drop a)=(n,e):=⟨_,_,rfl⟩
 have hcall:=fun W'=>quoteFour_any s a W' hs ha n e hf
 have HC:=Lib.hid hcall
 have hR:=hr.out
 unfold codedR codedP at hR
 rw [hf] at hR
 simp only [] at hR
 have HF:=Lib.hid hf
 clear hcall hf hr
 by_cases he:e=0
 ·subst he
  simp only [ne_eq,not_true_eq_false,if_false] at hR
  have hbd:=fourP_bd (s.data.toList.drop a) (by rw [HF.out])
  rw [HF.out,List.length_drop,size_len] at hbd
  simp only [] at hbd
  obtain ⟨n0,n1,hl4⟩:=hbd
  by_cases h1:n<55296∨57343<n
  ·rw [if_pos h1] at hR
   simp only [not_true_eq_false,if_false,Prod.mk.injEq] at hR
   obtain ⟨rfl,h2,rfl⟩:=hR
   have H2:=Lib.hid h2
   clear h2
   by_cases h3:n<55296
   ·go_enter Tryz.func187,Tryz.ntmps187
    go_wp2_with fail
    refine (HC.out _).mono ?_
    rintro e w2 ⟨rfl,hb2⟩
    go_wp2_with fail
    go_ret3
    exact ⟨ret3i rfl (by rw [← H2.out];rfl) rfl,hb2⟩
   ·have h4:57343<n:=by omega
    clear h1
    go_enter Tryz.func187,Tryz.ntmps187
    go_wp2_with fail
    refine (HC.out _).mono ?_
    rintro e w2 ⟨rfl,hb2⟩
    go_wp2_with fail
    go_ret3
    exact ⟨ret3i rfl (by rw [← H2.out];rfl) rfl,hb2⟩
  ·rw [if_neg h1] at hR
   have k1:¬ n<55296:=by omega
   have k2:¬ 57343<n:=by omega
   clear h1
   by_cases h3:56320≤n
   ·rw [if_pos h3] at hR
    obtain ⟨rfl,rfl,rfl⟩:=resP_bad (a:=a) (by decide) hR
    go_enter Tryz.func187,Tryz.ntmps187
    go_wp2_with fail
    refine (HC.out _).mono ?_
    rintro e w2 ⟨rfl,hb2⟩
    go_wp2_with fail
    go_ret3
    exact ⟨rfl,hb2⟩
   ·rw [if_neg h3] at hR
    rw [List.drop_drop] at hR
    have HR:Hid (resP a (pairG n 0 (s.data.toList.drop (a+4)))=(r1,r2,r3)):=hR
    clear hR
    go_enter Tryz.func187,Tryz.ntmps187
    go_wp2_with fail
    refine (HC.out _).mono ?_
    rintro e w2 ⟨rfl,hb2⟩
    have hk0:(w2.alloc (.cells #[.int .u8 92,.int .u8 117] 5)).cell? ⟨w2.heap.size,0,none⟩=some (.int .u8 92):=(cell_al_eq w2 _ _ w2.heap.size 0 rfl).trans rfl
    have hk1:(w2.alloc (.cells #[.int .u8 92,.int .u8 117] 5)).cell? ⟨w2.heap.size,1,none⟩=some (.int .u8 117):=(cell_al_eq w2 _ _ w2.heap.size 1 rfl).trans rfl
    go_wp2_with fail
    go_loop [1,35] (fun p i=>∃ j q:Nat,j≤2∧i=.int .i64 j∧p=.int .i64 q∧q≤s.size∧Hid (q=a+4+j∧resP a (pairG n j (s.data.toList.drop q))=(r1,r2,r3))) (fun _ i=>2 - (intOf i).toNat)
    case atStart=>exact ⟨0,a+4,by omega,rfl,by go_num,by omega,rfl,HR.out⟩
    case round =>
     obtain ⟨j,q,hj,rfl,rfl,hq,HQ⟩:=hrel
     by_cases hj2:j=2
     ·subst hj2
      have hpe:resP a (pairE n (s.data.toList.drop q))=(r1,r2,r3):=HQ.out.2
      obtain ⟨m,f,hf2⟩:∃ m f,fourP (s.data.toList.drop q)=(m,f):=⟨_,_,rfl⟩
      have hbd:=fourP_bd (s.data.toList.drop q)
      rw [hf2,List.length_drop,size_len] at hbd
      have HC2:=Lib.hid (fun W'=>quoteFour_any s q W' hs hq m f hf2)
      unfold pairE at hpe
      rw [hf2] at hpe
      simp only [] at hpe hbd
      have HBD:=Lib.hid hbd
      have HQA:=Lib.hid HQ.out.1
      clear hbd hf2 HQ
      by_cases hf0:f=0
      ·subst hf0
       obtain ⟨m0,m1,m2⟩:=HBD.out rfl
       simp only [ne_eq,not_true_eq_false,if_false] at hpe
       by_cases hm:m<56320∨57343<m
       ·rw [if_pos hm] at hpe
        obtain ⟨rfl,rfl,rfl⟩:=resP_bad (by decide) hpe
        have hmm:m<56320∨(¬ m<56320∧57343<m):=by omega
        clear hm hpe
        rcases hmm with hm | ⟨hm,hm2⟩
        all_goals
         go_wp2_with fail
         refine (HC2.out _).mono ?_
         rintro e w3 ⟨rfl,hb3⟩
         go_wp2_with fail
         go_ret3
         exact ⟨rfl,below_more (bel_alloc hb2 _) hb3⟩
       ·rw [if_neg hm] at hpe
        unfold resP at hpe
        simp only [ne_eq,not_true_eq_false,if_false,Prod.mk.injEq] at hpe
        obtain ⟨e1,e2,rfl⟩:=hpe
        have m3:¬ m<56320:=by omega
        have m4:¬ 57343<m:=by omega
        have HE1:=Lib.hid e1
        have HE2:=Lib.hid e2
        clear hm e1 e2
        go_wp2_with fail
        refine (HC2.out _).mono ?_
        rintro e w3 ⟨rfl,hb3⟩
        go_wp2_with fail
        go_ret3
        refine ⟨ret3i ?_ ?_ rfl,below_more (bel_alloc hb2 _) hb3⟩
        ·have:=HE1.out;omega
        ·have:=HQA.out;have:=HE2.out;omega
      ·rw [if_pos hf0] at hpe
       obtain ⟨rfl,rfl,rfl⟩:=resP_bad hf0 hpe
       have hfb:(r3 != 0)=true:=by simp [hf0]
       clear hf0 hpe
       go_wp2_with fail
       refine (HC2.out _).mono ?_
       rintro e w3 ⟨rfl,hb3⟩
       go_wp2_with fail
       go_ret3
       exact ⟨rfl,below_more (bel_alloc hb2 _) hb3⟩
     ·by_cases hqs:q<s.size
      ·have hdr:=drop_at hqs
       have hqe:((q:Int) == (s.size:Int))=false:=beq_eq_false_iff_ne.2 (by omega)
       have hj01:j=0∨j=1:=by omega
       rcases hj01 with rfl | rfl
       ·by_cases hc:s[q].toNat=92
        ·have hcb:((s[q].toNat:Int) != 92)=false:=by rw [hc];rfl
         have hst:=HQ.out.2
         rw [pairG,hdr,pairP,if_neg (by omega)] at hst
         have HST:=Lib.hid hst
         have HQA:=Lib.hid HQ.out.1
         clear hst hdr hc HQ hj2
         go_wp2_with fail
         refine ⟨⟨1,q+1,by omega,by go_num,by go_num,by omega,?_,HST.out⟩,by simp [intOf]⟩
         have:=HQA.out
         omega
        ·have hcb:((s[q].toNat:Int) != 92)=true:=by simp;omega
         have hst:=HQ.out.2
         rw [pairG,hdr,pairP,if_pos hc] at hst
         obtain ⟨rfl,rfl,rfl⟩:=resP_bad (by decide) hst
         clear hst hdr hc HQ hj2
         go_wp2_with fail
         go_ret3
         exact ⟨rfl,bel_alloc hb2 _⟩
       ·by_cases hc:s[q].toNat=117
        ·have hcb:((s[q].toNat:Int) != 117)=false:=by rw [hc];rfl
         have hst:=HQ.out.2
         rw [pairG,hdr,pairQ,if_neg (by omega)] at hst
         have HST:=Lib.hid hst
         have HQA:=Lib.hid HQ.out.1
         clear hst hdr hc HQ hj2
         go_wp2_with fail
         refine ⟨⟨2,q+1,by omega,by go_num,by go_num,by omega,?_,HST.out⟩,by simp [intOf]⟩
         have:=HQA.out
         omega
        ·have hcb:((s[q].toNat:Int) != 117)=true:=by simp;omega
         have hst:=HQ.out.2
         rw [pairG,hdr,pairQ,if_pos hc] at hst
         obtain ⟨rfl,rfl,rfl⟩:=resP_bad (by decide) hst
         clear hst hdr hc HQ hj2
         go_wp2_with fail
         go_ret3
         exact ⟨rfl,bel_alloc hb2 _⟩
      ·have hqe:((q:Int) == (s.size:Int))=true:=by
        rw [beq_iff_eq];omega
       have hst:=HQ.out.2
       rw [drop_none (by omega)] at hst
       have hj01:j=0∨j=1:=by omega
       rcases hj01 with rfl | rfl
       all_goals
        obtain ⟨rfl,rfl,rfl⟩:=resP_bad (by decide) hst
        clear hst HQ hj2
        go_wp2_with fail
        go_ret3
        exact ⟨rfl,bel_alloc hb2 _⟩
 ·rw [if_pos he] at hR
  simp only [he,ne_eq,not_false_eq_true,if_true,Prod.mk.injEq] at hR
  obtain ⟨rfl,rfl,rfl⟩:=hR
  have heb:(e != 0)=true:=by simp [he]
  clear he
  go_enter Tryz.func187,Tryz.ntmps187
  go_wp2_with fail
  refine (HC.out _).mono ?_
  rintro e w2 ⟨rfl,hb2⟩
  go_wp2_with fail
  go_ret3
  exact ⟨rfl,hb2⟩
end
section
open Go.RowKit
def StandsPost (v:Int) (w:World) (e:Ending) (w':World):Prop :=
 ∃ b,e=.returned (.func (.func 186) #[] #[.pointer (some ⟨b,0,none⟩)])∧w'.cell? ⟨b,0,none⟩=some (.int .i64 v)∧Below w.heap.size w w'
theorem stands_any (v:Int) (w:World):Calls Tryz.prog 185 #[.int .i64 v] w (StandsPost v w):=by
 go_enter Tryz.func185,Tryz.ntmps185
 go_wp2_with fail
 go_ret
 exact ⟨w.heap.size,rfl,(cell_al_eq w _ _ w.heap.size 0 rfl).trans rfl,bel_alloc (Below.refl _ _) _⟩
theorem standsRun_any (s:ByteArray) (a v:Int) (b:Nat) (w:World) (hc:w.cell? ⟨b,0,none⟩=some (.int .i64 v)) :
 Calls Tryz.prog 186 #[.string s,.int .i64 a,.pointer (some ⟨b,0,none⟩)] w fun e w'=>e=.returned (.tuple #[.int .i64 v,.int .i64 a,.int .i64 0])∧w=w':=by
 go_enter Tryz.func186,Tryz.ntmps186
 go_wp2_with fail
 go_ret3
 exact ⟨rfl,rfl⟩
theorem decoder_b (w:World):Calls Tryz.prog 174 #[.int .u8 98] w (StandsPost 8 w):=by
 go_enter Tryz.func174,Tryz.ntmps174
 go_wp2_with fail
 refine (stands_any _ _).mono ?_
 rintro e w2 ⟨b,rfl,hc,hb⟩
 go_wp2_with fail
 go_ret
 exact ⟨b,rfl,hc,hb⟩
theorem decoder_f (w:World):Calls Tryz.prog 174 #[.int .u8 102] w (StandsPost 12 w):=by
 go_enter Tryz.func174,Tryz.ntmps174
 go_wp2_with fail
 refine (stands_any _ _).mono ?_
 rintro e w2 ⟨b,rfl,hc,hb⟩
 go_wp2_with fail
 go_ret
 exact ⟨b,rfl,hc,hb⟩
theorem decoder_n (w:World):Calls Tryz.prog 174 #[.int .u8 110] w (StandsPost 10 w):=by
 go_enter Tryz.func174,Tryz.ntmps174
 go_wp2_with fail
 refine (stands_any _ _).mono ?_
 rintro e w2 ⟨b,rfl,hc,hb⟩
 go_wp2_with fail
 go_ret
 exact ⟨b,rfl,hc,hb⟩
theorem decoder_r (w:World):Calls Tryz.prog 174 #[.int .u8 114] w (StandsPost 13 w):=by
 go_enter Tryz.func174,Tryz.ntmps174
 go_wp2_with fail
 refine (stands_any _ _).mono ?_
 rintro e w2 ⟨b,rfl,hc,hb⟩
 go_wp2_with fail
 go_ret
 exact ⟨b,rfl,hc,hb⟩
theorem decoder_t (w:World):Calls Tryz.prog 174 #[.int .u8 116] w (StandsPost 9 w):=by
 go_enter Tryz.func174,Tryz.ntmps174
 go_wp2_with fail
 refine (stands_any _ _).mono ?_
 rintro e w2 ⟨b,rfl,hc,hb⟩
 go_wp2_with fail
 go_ret
 exact ⟨b,rfl,hc,hb⟩
theorem decoder_34 (w:World):Calls Tryz.prog 174 #[.int .u8 34] w (StandsPost 34 w):=by
 go_enter Tryz.func174,Tryz.ntmps174
 go_wp2_with fail
 refine (stands_any _ _).mono ?_
 rintro e w2 ⟨b,rfl,hc,hb⟩
 go_wp2_with fail
 go_ret
 exact ⟨b,rfl,hc,hb⟩
theorem decoder_92 (w:World):Calls Tryz.prog 174 #[.int .u8 92] w (StandsPost 92 w):=by
 go_enter Tryz.func174,Tryz.ntmps174
 go_wp2_with fail
 refine (stands_any _ _).mono ?_
 rintro e w2 ⟨b,rfl,hc,hb⟩
 go_wp2_with fail
 go_ret
 exact ⟨b,rfl,hc,hb⟩
theorem decoder_47 (w:World):Calls Tryz.prog 174 #[.int .u8 47] w (StandsPost 47 w):=by
 go_enter Tryz.func174,Tryz.ntmps174
 go_wp2_with fail
 refine (stands_any _ _).mono ?_
 rintro e w2 ⟨b,rfl,hc,hb⟩
 go_wp2_with fail
 go_ret
 exact ⟨b,rfl,hc,hb⟩
theorem decoder_u (w:World):Calls Tryz.prog 174 #[.int .u8 117] w fun e w'=>e=.returned (.func (.func 187) #[] #[])∧w=w':=by
 go_enter Tryz.func174,Tryz.ntmps174
 go_wp2_with fail
 go_ret
 exact ⟨rfl,rfl⟩
theorem beq_no {c:Int} {k:Int} (h:¬ c=k):(c == k)=false:=beq_eq_false_iff_ne.2 h
theorem decoder_nil (c:Int) (w:World) (h34:¬ c=34) (h92:¬ c=92) (h47:¬ c=47) (h98:¬ c=98) (h102:¬ c=102) (h110:¬ c=110) (h114:¬ c=114) (h116:¬ c=116) (h117:¬ c=117) :
 Calls Tryz.prog 174 #[.int .u8 c] w fun e w'=>e=.returned .nilFunc∧w=w':=by
 have b34:=beq_no h34
 have b92:=beq_no h92
 have b47:=beq_no h47
 have b98:=beq_no h98
 have b102:=beq_no h102
 have b110:=beq_no h110
 have b114:=beq_no h114
 have b116:=beq_no h116
 have b117:=beq_no h117
 clear h34 h92 h47 h98 h102 h110 h114 h116 h117
 go_enter Tryz.func174,Tryz.ntmps174
 go_wp2_with fail
 go_ret
 exact ⟨rfl,rfl⟩
end
end

section
set_option maxRecDepth 100000
section
open Go.RowKit
theorem eql_func_nil (w:World) (f:Fn) (x y:Array Value):(binOp .eql 163 (.func f x y) .nilFunc).run Tryz.prog w=.ok (.bool false) w:=by kernel_rfl
theorem eql_nil_nil (w:World):(binOp .eql 163 .nilFunc .nilFunc).run Tryz.prog w=.ok (.bool true) w:=by kernel_rfl
theorem ne92 {c:UInt8} (h:c.toNat=92):((c.toNat:Int) != 92)=false:=by rw [h];rfl
theorem lt32 {c:UInt8} (h:c.toNat=92):decide ((c.toNat:Int)<32)=false:=by rw [h];rfl
theorem item_low (s:ByteArray) (a:Nat) (w:World) (ha:a<s.size) (h:s[a].toNat<32) :
 Calls Tryz.prog 159 #[.string s,.int .i64 a] w fun e w'=>e=.returned (.tuple #[.int .i64 0,.int .i64 0,.int .i64 3])∧Below w.heap.size w w':=by
 go_enter Tryz.func159,Tryz.ntmps159
 go_wp2_with fail
 go_ret3
 exact ⟨rfl,Below.refl _ _⟩
theorem item_plain (s:ByteArray) (a:Nat) (w:World) (hs:s.size≤281474976710656) (ha:a<s.size) (h:¬ s[a].toNat<32) (h2:s[a].toNat≠92) (r1 r2 r3:Int) (hr:Hid ((if (nextP (s.data.toList.drop a)).2.2≠0 then (0,0,(nextP (s.data.toList.drop a)).2.2) else ((nextP (s.data.toList.drop a)).1,(a:Int)+(nextP (s.data.toList.drop a)).2.1,0))=(r1,r2,r3))) :
 Calls Tryz.prog 159 #[.string s,.int .i64 a] w fun e w'=>e=.returned (.tuple #[.int .i64 r1,.int .i64 r2,.int .i64 r3])∧Below w.heap.size w w':=by
 obtain ⟨x,y,z,hn⟩:∃ x y z,nextP (s.data.toList.drop a)=(x,y,z):=⟨_,_,_,rfl⟩
 have hsz:=next_size (s.data.toList.drop a)
 have HC:=Lib.hid (fun W=>utfNext_in s a W hs ha x y z hn)
 have h0:=hr.out
 rw [hn] at h0 hsz
 simp only [List.length_drop,size_len] at hsz
 have hb:((s[a].toNat:Int) != 92)=true:=by rw [bne_iff_ne];omega
 have hl:decide ((s[a].toNat:Int)<32)=false:=by simp;omega
 clear hr hn h h2
 by_cases hz:z≠0
 ·simp only [if_pos hz,Prod.mk.injEq] at h0
  obtain ⟨rfl,rfl,rfl⟩:=h0
  have hzb:(z != 0)=true:=by rw [bne_iff_ne];exact hz
  clear hz hsz
  go_enter Tryz.func159,Tryz.ntmps159
  go_wp2_with fail
  refine (HC.out _).mono ?_
  rintro e w2 ⟨rfl,rfl⟩
  go_wp2_with fail
  go_ret3
  exact ⟨rfl,Below.refl _ _⟩
 ·simp only [if_neg hz,Prod.mk.injEq] at h0
  obtain ⟨rfl,rfl,rfl⟩:=h0
  have hz0:z=0:=by simpa using hz
  obtain ⟨s1,s2⟩:=hsz hz0
  subst hz0
  clear hz hsz
  have s3:y≤281474976710656:=by omega
  have s4:0≤y:=by omega
  clear s1 s2
  go_enter Tryz.func159,Tryz.ntmps159
  go_wp2_with fail
  refine (HC.out _).mono ?_
  rintro e w2 ⟨rfl,rfl⟩
  go_wp2_with fail
  go_ret3
  exact ⟨rfl,Below.refl _ _⟩
theorem item_end (s:ByteArray) (a:Nat) (w:World) (hs:s.size≤281474976710656) (ha:a<s.size) (h:s[a].toNat=92) (h2:s.size≤a+1) :
 Calls Tryz.prog 159 #[.string s,.int .i64 a] w fun e w'=>e=.returned (.tuple #[.int .i64 0,.int .i64 0,.int .i64 4])∧Below w.heap.size w w':=by
 have h3:=ne92 h
 have h4:=lt32 h
 have h5:((a:Int)+1 == (s.size:Int))=true:=by rw [beq_iff_eq];omega
 clear h
 go_enter Tryz.func159,Tryz.ntmps159
 go_wp2_with fail
 go_ret3
 exact ⟨rfl,Below.refl _ _⟩
theorem item_stands (s:ByteArray) (a:Nat) (w:World) (hs:s.size≤281474976710656) (ha:a<s.size) (h:s[a].toNat=92) (h2:a+1<s.size) (v:Int) (HD:Hid (∀ W,Calls Tryz.prog 174 #[.int .u8 (s[a+1].toNat:Int)] W (StandsPost v W))) :
 Calls Tryz.prog 159 #[.string s,.int .i64 a] w fun e w'=>e=.returned (.tuple #[.int .i64 v,.int .i64 ((a:Int)+2),.int .i64 0])∧Below w.heap.size w w':=by
 have h3:=ne92 h
 have h4:=lt32 h
 have h5:((a:Int)+1 == (s.size:Int))=false:=beq_eq_false_iff_ne.2 (by omega)
 clear h
 have hfn:=eql_func_nil
 go_enter Tryz.func159,Tryz.ntmps159
 go_wp2_with fail
 refine (HD.out _).mono ?_
 rintro e w2 ⟨b,rfl,hc,hb⟩
 go_wp2_with fail
 refine (standsRun_any s _ v b _ hc).mono ?_
 rintro e w3 ⟨rfl,rfl⟩
 go_wp2_with fail
 go_ret3
 exact ⟨rfl,hb⟩
theorem item_nil (s:ByteArray) (a:Nat) (w:World) (hs:s.size≤281474976710656) (ha:a<s.size) (h:s[a].toNat=92) (h2:a+1<s.size) (HD:Hid (∀ W,Calls Tryz.prog 174 #[.int .u8 (s[a+1].toNat:Int)] W fun e w'=>e=.returned .nilFunc∧W=w')) :
 Calls Tryz.prog 159 #[.string s,.int .i64 a] w fun e w'=>e=.returned (.tuple #[.int .i64 0,.int .i64 0,.int .i64 3])∧Below w.heap.size w w':=by
 have h3:=ne92 h
 have h4:=lt32 h
 have h5:((a:Int)+1 == (s.size:Int))=false:=beq_eq_false_iff_ne.2 (by omega)
 clear h
 have hfn:=eql_nil_nil
 go_enter Tryz.func159,Tryz.ntmps159
 go_wp2_with fail
 refine (HD.out _).mono ?_
 rintro e w2 ⟨rfl,rfl⟩
 go_wp2_with fail
 go_ret3
 exact ⟨rfl,Below.refl _ _⟩
theorem item_coded (s:ByteArray) (a:Nat) (w:World) (hs:s.size≤281474976710656) (ha:a<s.size) (h:s[a].toNat=92) (h2:a+1<s.size) (hu:s[a+1].toNat=117) (r1 r2 r3:Int) (hr:Hid (codedR (a+2) (s.data.toList.drop (a+2))=(r1,r2,r3))) :
 Calls Tryz.prog 159 #[.string s,.int .i64 a] w fun e w'=>e=.returned (.tuple #[.int .i64 r1,.int .i64 r2,.int .i64 r3])∧Below w.heap.size w w':=by
 have h3:=ne92 h
 have h4:=lt32 h
 have h5:((a:Int)+1 == (s.size:Int))=false:=beq_eq_false_iff_ne.2 (by omega)
 have hdec:∀ W,Calls Tryz.prog 174 #[.int .u8 (s[a+1].toNat:Int)] W fun e w'=>e=.returned (.func (.func 187) #[] #[])∧W=w':=by
  rw [hu];exact decoder_u
 have HD:=Lib.hid hdec
 have HC:=Lib.hid (fun W=>coded_any s (a+2) W hs (by omega) r1 r2 r3 hr)
 clear h hu hdec hr
 have hfn:=eql_func_nil
 go_enter Tryz.func159,Tryz.ntmps159
 go_wp2_with fail
 refine (HD.out _).mono ?_
 rintro e w2 ⟨rfl,rfl⟩
 go_wp2_with fail
 refine (HC.out _).mono ?_
 rintro e w3 ⟨rfl,hb⟩
 go_wp2_with fail
 go_ret3
 exact ⟨rfl,hb⟩
theorem escV_of {c:UInt8} {n:Nat} (h:c.toNat=n):escV c=if n=34∨n=92∨n=47 then (n:Int) else if n=98 then 8 else if n=102 then 12 else if n=110 then 10 else if n=114 then 13 else if n=116 then 9 else -1:=by unfold escV;rw [h]
theorem item_any (s:ByteArray) (a:Nat) (w:World) (hs:s.size≤281474976710656) (ha:a<s.size) (r1 r2 r3:Int) (hr:Hid (resP a (itemP (s.data.toList.drop a))=(r1,r2,r3))) :
 Calls Tryz.prog 159 #[.string s,.int .i64 a] w fun e w'=>e=.returned (.tuple #[.int .i64 r1,.int .i64 r2,.int .i64 r3])∧Below w.heap.size w w':=by
 have h:=hr.out
 have hdr:=drop_at ha
 rw [hdr,itemP] at h
 by_cases h1:s[a].toNat<32
 ·rw [if_pos h1] at h
  obtain ⟨rfl,rfl,rfl⟩:=resP_bad (by decide) h
  exact item_low s a w ha h1
 ·rw [if_neg h1] at h
  by_cases h2:s[a].toNat≠92
  ·rw [if_pos h2,← hdr] at h
   refine item_plain s a w hs ha h1 h2 r1 r2 r3 ?_
   have hsz:=next_size (s.data.toList.drop a)
   show _=_
   rw [← h]
   unfold resP
   by_cases hz:(nextP (s.data.toList.drop a)).2.2≠0
   ·simp only [if_pos hz]
   ·have hz0:(nextP (s.data.toList.drop a)).2.2=0:=by simpa using hz
    have:=(hsz hz0).1
    simp only [if_neg hz,ne_eq,not_true_eq_false,if_false,Prod.mk.injEq,true_and,and_true]
    omega
  ·rw [if_neg h2] at h
   have h92:s[a].toNat=92:=by simpa using h2
   by_cases h3:a+1<s.size
   ·have hdr2:=drop_at h3
    rw [hdr2,escP] at h
    by_cases hu:s[a+1].toNat=117
    ·rw [if_pos hu] at h
     refine item_coded s a w hs ha h92 h3 hu r1 r2 r3 ?_
     show _=_
     rw [← h]
     unfold codedR resP
     by_cases hz:(codedP (s.data.toList.drop (a+1+1))).2.2≠0
     ·simp only [if_pos hz]
     ·simp only [if_neg hz,ne_eq,not_true_eq_false,if_false,Prod.mk.injEq,true_and,and_true]
      show ((a+2:Nat):Int)+((codedP (s.data.toList.drop (a+1+1))).2.1:Int)=_
      omega
    ·rw [if_neg hu] at h
     by_cases hv:escV s[a+1]<0
     ·rw [if_pos hv] at h
      obtain ⟨rfl,rfl,rfl⟩:=resP_bad (by decide) h
      refine item_nil s a w hs ha h92 h3 (fun W=>decoder_nil _ W ?_ ?_ ?_ ?_ ?_ ?_ ?_ ?_ ?_)
      all_goals (intro hc;first | exact hu (by omega) | (have:=escV_of (n:=_) (c:=s[a+1]) (by first | exact (show s[a+1].toNat=34 by omega) | exact (show s[a+1].toNat=92 by omega) | exact (show s[a+1].toNat=47 by omega) | exact (show s[a+1].toNat=98 by omega) | exact (show s[a+1].toNat=102 by omega) | exact (show s[a+1].toNat=110 by omega) | exact (show s[a+1].toNat=114 by omega) | exact (show s[a+1].toNat=116 by omega));rw [this] at hv;revert hv;decide))
     ·rw [if_neg hv] at h
      simp only [ne_eq,not_true_eq_false,if_false] at h
      unfold resP at h
      simp only [ne_eq,not_true_eq_false,if_false,Prod.mk.injEq] at h
      obtain ⟨rfl,rfl,rfl⟩:=h
      have key:∀ W,Calls Tryz.prog 174 #[.int .u8 (s[a+1].toNat:Int)] W (StandsPost (escV s[a+1]) W):=by
       intro W
       have hall:s[a+1].toNat=34∨s[a+1].toNat=92∨s[a+1].toNat=47∨s[a+1].toNat=98∨s[a+1].toNat=102∨s[a+1].toNat=110∨s[a+1].toNat=114∨s[a+1].toNat=116:=by
        unfold escV at hv
        omega
       rcases hall with hc | hc | hc | hc | hc | hc | hc | hc
       ·rw [escV_of hc,hc];exact decoder_34 W
       ·rw [escV_of hc,hc];exact decoder_92 W
       ·rw [escV_of hc,hc];exact decoder_47 W
       ·rw [escV_of hc,hc];exact decoder_b W
       ·rw [escV_of hc,hc];exact decoder_f W
       ·rw [escV_of hc,hc];exact decoder_n W
       ·rw [escV_of hc,hc];exact decoder_r W
       ·rw [escV_of hc,hc];exact decoder_t W
      exact item_stands s a w hs ha h92 h3 _ key
   ·rw [drop_none (by omega)] at h
    have h':resP a (0,0,4)=(r1,r2,r3):=h
    obtain ⟨rfl,rfl,rfl⟩:=resP_bad (by decide) h'
    exact item_end s a w hs ha h92 (by omega)
end
section
open Go.RowKit
def strR (q:Nat) (x:List UInt8 × Nat × Int):List UInt8 × Int × Int:=if x.2.2≠0 then ([],0,x.2.2) else (x.1,(q:Int)+x.2.1,0)
theorem strR_bad {q:Nat} {e:Int} {t:List UInt8} {r2 r3:Int} (he:e≠0) (h:strR q ([],0,e)=(t,r2,r3)):t=[]∧r2=0∧r3=e:=by
 unfold strR at h
 rw [if_pos he] at h
 simp only [Prod.mk.injEq] at h
 exact ⟨h.1.symm,h.2.1.symm,h.2.2.symm⟩
theorem strR_T (q k:Nat) (x:List UInt8 × Nat × Int):strR q (strT x k)=strR (q+k) x:=by
 unfold strR strT
 by_cases h:x.2.2≠0
 ·simp only [if_pos h]
 ·simp only [if_neg h,ne_eq,not_true_eq_false,if_false,Prod.mk.injEq,true_and,and_true]
  omega
theorem quoteRead_any (s:ByteArray) (a:Nat) (w:World) (hs:s.size≤281474976710656) (ha:a<s.size) (hq:s[a].toNat=34) (t:List UInt8) (r2 r3:Int) (hr:Hid (strR (a+1) (strQ (s.data.toList.drop (a+1)) [])=(t,r2,r3))) :
 Calls Tryz.prog 153 #[.string s,.int .i64 a] w fun e w'=>e=.returned (.tuple #[.string ⟨t.toArray⟩,.int .i64 r2,.int .i64 r3])∧Below w.heap.size w w':=by
 have h1:((s[a].toNat:Int) != 34)=false:=by rw [hq];rfl
 have hlen:((a:Int) == (s.size:Int))=false:=beq_eq_false_iff_ne.2 (by omega)
 have hlt:¬ (s.size:Int)<(a:Int):=by omega
 have hng:decide ((a:Int)<0)=false:=by simp
 clear hq
 go_enter Tryz.func153,Tryz.ntmps153
 go_wp2_with fail
 have hI:Bld w.heap.size w.heap.size [] (w.alloc (.cells #[.pointer none,.slice none 0 0] 204)):=Lib.IsBuilderF.of (Lib.fresh_isBuilder 204 5 w)
 have hB:Below w.heap.size w (w.alloc (.cells #[.pointer none,.slice none 0 0] 204)):=bel_alloc (Below.refl _ _) _
 go_loopw [1] (fun p wr=>∃ (q:Nat) (out:List UInt8),a+1≤q∧q≤s.size∧p=.int .i64 q∧out.length≤4096∧Hid (strR q (strQ (s.data.toList.drop q) out)=(t,r2,r3))∧Bld w.heap.size w.heap.size out wr∧Below w.heap.size w wr) (fun p _=>s.size - (intOf p).toNat)
 case atStart=>exact ⟨a+1,[],by omega,by omega,by go_num,by simp,hr,hI,hB⟩
 case round =>
  obtain ⟨q,out,q1,q2,rfl,ho,HQ,hIr,hBr⟩:=hrel
  have hsz:=hBr.size
  clear hI hB
  by_cases hqs:q<s.size
  ·have hst:=HQ.out
   have hdr:=drop_at hqs
   rw [hdr,strQ_step] at hst
   by_cases hc:s[q].toNat=34
   ·rw [if_pos hc] at hst
    unfold strR at hst
    simp only [ne_eq,not_true_eq_false,if_false,Prod.mk.injEq] at hst
    obtain ⟨rfl,rfl,rfl⟩:=hst
    have hcb:((s[q].toNat:Int) == 34)=true:=by rw [hc];rfl
    clear hc hdr HQ
    go_wp2_with fail
    refine (Tryz.Builder_String_any_k _ _ _ _ hIr (by omega)).mono ?_
    rintro e w5 ⟨rfl,-,hb5,-⟩
    go_wp2_with fail
    go_ret3
    exact ⟨rfl,hBr.trans hb5⟩
   ·rw [if_neg hc,← hdr] at hst
    have hcb:((s[q].toNat:Int) == 34)=false:=beq_eq_false_iff_ne.2 (by omega)
    obtain ⟨x,k,z,hi⟩:∃ x k z,itemP (s.data.toList.drop q)=(x,k,z):=⟨_,_,_,rfl⟩
    have hok:=itemP_ok (s.data.toList.drop q)
    rw [hi] at hst hok
    simp only [List.length_drop,size_len] at hst hok
    clear HQ hc hdr
    by_cases hz:z≠0
    ·rw [if_pos hz] at hst
     obtain ⟨rfl,rfl,rfl⟩:=strR_bad hz hst
     have HC:=Lib.hid (fun W=>item_any s q W hs hqs 0 0 r3 (show resP q (itemP (s.data.toList.drop q))=_ by rw [hi,resP,if_pos hz]))
     have hzb:(r3 != 0)=true:=by rw [bne_iff_ne];exact hz
     clear hz hi hok hst
     go_wp2_with fail
     refine (HC.out _).mono ?_
     rintro e w2 ⟨rfl,hb2⟩
     go_wp2_with fail
     go_ret3
     exact ⟨rfl,hBr.trans (hb2.mono hsz)⟩
    ·have hz0:z=0:=by simpa using hz
     subst hz0
     obtain ⟨hrune,k1,k2⟩:=hok rfl
     rw [if_neg hz] at hst
     have HC:=Lib.hid (fun W=>item_any s q W hs hqs x ((q+k:Nat):Int) 0 (show resP q (itemP (s.data.toList.drop q))=_ by rw [hi,resP,if_neg (by simp)];simp))
     have hel:=encP_len x
     obtain ⟨tb,htb⟩:∃ tb:ByteArray,tb=⟨(encP x).toArray⟩:=⟨_,rfl⟩
     have htl:tb.data.toList=encP x:=by rw [htb]
     have htz:tb.size=(encP x).length:=by rw [← size_len,htl]
     have HP:=Lib.hid (fun W=>utfPut_any x W hrune tb htb)
     have HT:=Lib.hid htl
     rw [← htz] at hel hst
     clear hz hi hok hrune htb htl htz
     by_cases hlong:4096<out.length+tb.size
     ·rw [if_pos hlong] at hst
      obtain ⟨rfl,rfl,rfl⟩:=strR_bad (by decide) hst
      clear hst
      go_wp2_with fail
      refine (HC.out _).mono ?_
      rintro e w2 ⟨rfl,hb2⟩
      have hI2:Bld w.heap.size w.heap.size out w2:=hIr.keep hb2
      go_wp2_with fail
      refine (HP.out _).mono ?_
      rintro e w3 ⟨rfl,rfl⟩
      go_wp2_with fail
      refine (bl _ _ _ _ hI2).mono ?_
      rintro e w3 ⟨rfl,rfl⟩
      go_wp2_with fail
      go_ret3
      exact ⟨rfl,hBr.trans (hb2.mono hsz)⟩
     ·rw [if_neg hlong,strR_T,List.drop_drop] at hst
      have HST:=Lib.hid hst
      clear hst
      have hl1:out.length+tb.size≤4096:=by omega
      clear hlong
      go_wp2_with fail
      refine (HC.out _).mono ?_
      rintro e w2 ⟨rfl,hb2⟩
      have hI2:Bld w.heap.size w.heap.size out w2:=hIr.keep hb2
      have hsz2:=hb2.size
      go_wp2_with fail
      refine (HP.out _).mono ?_
      rintro e w3 ⟨rfl,rfl⟩
      go_wp2_with fail
      refine (bl _ _ _ _ hI2).mono ?_
      rintro e w3 ⟨rfl,rfl⟩
      go_wp2_with fail
      refine (ws _ _ _ tb _ hI2 (by omega) (by omega)).mono ?_
      rintro e w4 ⟨rfl,hI4,hb4,-⟩
      go_wp2_with fail
      refine ⟨⟨q+k,out++tb.data.toList,by omega,by omega,rfl,by rw [List.length_append,size_len];omega,?_,hI4,(hBr.trans (hb2.mono hsz)).trans hb4⟩,by simp [intOf];omega⟩
      show _=_
      rw [HT.out]
      exact HST.out
  ·have hst:=HQ.out
   rw [drop_none (by omega),strQ_nil] at hst
   obtain ⟨rfl,rfl,rfl⟩:=strR_bad (by decide) hst
   clear hst HQ
   go_wp2_with fail
   go_ret3
   exact ⟨rfl,hBr⟩
end
end
end Go.Proofs.YtchinankclckjaaGreatDoor
