/-
  utf.Put: the bytes of a rune. utf.lead, utf.Next. utf.Next: the rune at a place of a text.
  What stands at the head of bytes does not hang on what is behind it (plain). All marks of bytes, plainly, and the laws on them. The marks of bytes: their row, each by itself, blanks between them (plain).
-/
import Derived.Test.YtchinankclckjaaGreatDoorLexPlain
import Derived.Laws.Runes
namespace Go.Proofs.YtchinankclckjaaGreatDoor
set_option maxHeartbeats 2000000
section
set_option maxRecDepth 100000
section
open Go.RowKit
theorem encode_eq (r:Int) (h:isRune r):Utf8.encode r=⟨(encP r).toArray⟩:=by
 obtain ⟨h0,h1,h2⟩:=h
 have hv:Utf8.valid r=true:=by simp [Utf8.valid];omega
 unfold Utf8.encode encP
 rw [hv]
 simp only [if_true]
 by_cases c1:r<128
 ·rw [if_pos c1,if_pos (by omega)]
 ·rw [if_neg c1,if_neg (by omega)]
  by_cases c2:r<2048
  ·rw [if_pos c2,if_pos (by omega)]
  ·rw [if_neg c2,if_neg (by omega)]
   by_cases c3:r<65536
   ·rw [if_pos c3,if_pos (by omega)]
   ·rw [if_neg c3,if_neg (by omega)]
theorem utfPut_any (r:Int) (w:World) (h:isRune r) (t:ByteArray) (ht:Hid (t=⟨(encP r).toArray⟩)) :
 Calls Tryz.prog 160 #[.int .i64 r] w fun e w'=>e=.returned (.tuple #[.string t,.int .i64 0])∧w=w':=by
 have he:=encode_eq r h
 obtain ⟨h0,h1,h2⟩:=h
 have HE:=Lib.hid (he.trans ht.out.symm)
 clear he
 by_cases c:55296≤r
 ·have c2:¬ r≤57343:=by omega
  clear h2
  go_enter Tryz.func160,Tryz.ntmps160
  go_wp2_with fail
  go_ret2
  exact ⟨by rw [← HE.out];rfl,rfl⟩
 ·clear h2
  go_enter Tryz.func160,Tryz.ntmps160
  go_wp2_with fail
  go_ret2
  exact ⟨by rw [← HE.out];rfl,rfl⟩
end
section
open Go.RowKit
def leadP (c:Int):Int × Int × Int:=if c<128 then (1,0,0) else if c<194 then (0,0,0) else if c<224 then (2,128,191) else if c=224 then (3,160,191) else if c=237 then (3,128,159) else if c<240 then (3,128,191) else if c=240 then (4,144,191) else if c<244 then (4,128,191) else if c=244 then (4,128,143) else (0,0,0)
theorem ret_lead {a a' b b' c c':Int} (h:(a,b,c)=(a',b',c')):Ending.returned (.tuple #[.int .i64 a,.int .u8 b,.int .u8 c])=.returned (.tuple #[.int .i64 a',.int .u8 b',.int .u8 c']):=by
 simp only [Prod.mk.injEq] at h
 rw [h.1,h.2.1,h.2.2]
theorem lead_any (c:Int) (w:World) (h0:0≤c) (h1:c≤255) (x y z:Int) (h:Hid (leadP c=(x,y,z))) :
 Calls Tryz.prog 184 #[.int .u8 c] w fun e w'=>e=.returned (.tuple #[.int .i64 x,.int .u8 y,.int .u8 z])∧w=w':=by
 go_enter Tryz.func184,Tryz.ntmps184
 go_wp2_with fail
 all_goals
  go_ret3
  refine ⟨ret_lead ?_,rfl⟩
  rw [← h.out]
  clear h
  unfold leadP
  (try simp only [beq_iff_eq,beq_eq_false_iff_ne,ne_eq] at *)
  (repeat (first | rw [if_pos (by omega)] | rw [if_neg (by omega)]))
theorem and_low (c k:Nat) (hc:c<256) (hk:k≤6):bits .and .i64 (c:Int) ((2 ^ k - 1:Nat):Int)=((c % 2 ^ k:Nat):Int):=by
 have hp:2 ^ k≤2 ^ 6:=Nat.pow_le_pow_right (by decide) hk
 have hp0:0<2 ^ k:=Nat.pow_pos (by decide)
 have hm:c % 2 ^ k<2 ^ k:=Nat.mod_lt _ hp0
 show IntKind.i64.wrap ((BitVec.ofInt 64 (c:Int) &&& BitVec.ofInt 64 ((2 ^ k - 1:Nat):Int)).toNat:Int)=_
 have e1:(BitVec.ofInt 64 (c:Int)).toNat=c:=by rw [BitVec.ofInt_natCast,BitVec.toNat_ofNat];exact Nat.mod_eq_of_lt (by omega)
 have e2:(BitVec.ofInt 64 ((2 ^ k - 1:Nat):Int)).toNat=2 ^ k - 1:=by rw [BitVec.ofInt_natCast,BitVec.toNat_ofNat];exact Nat.mod_eq_of_lt (by omega)
 rw [BitVec.toNat_and,e1,e2,Nat.and_two_pow_sub_one_eq_mod,IntKind.wrap_i64]
 omega
theorem and_63 (d:Nat) (hd:d<256):bits .and .u8 (d:Int) 63=((d % 64:Nat):Int):=by
 show IntKind.u8.wrap ((BitVec.ofInt 8 (d:Int) &&& BitVec.ofInt 8 ((63:Nat):Int)).toNat:Int)=_
 have e1:(BitVec.ofInt 8 (d:Int)).toNat=d:=by rw [BitVec.ofInt_natCast,BitVec.toNat_ofNat];exact Nat.mod_eq_of_lt (by omega)
 have e2:(BitVec.ofInt 8 ((63:Nat):Int)).toNat=2 ^ 6 - 1:=by rw [BitVec.ofInt_natCast,BitVec.toNat_ofNat]
 rw [BitVec.toNat_and,e1,e2,Nat.and_two_pow_sub_one_eq_mod,IntKind.wrap_u8]
 omega
theorem or_64 (n d:Nat) (hn:n<10000000) (hd:d<64):bits .or .i64 ((n:Int)*64) (d:Int)=(n:Int)*64+d:=by
 have h1:((n:Int)*64)=((n*64:Nat):Int):=by omega
 rw [h1]
 show IntKind.i64.wrap ((BitVec.ofInt 64 ((n*64:Nat):Int) ||| BitVec.ofInt 64 (d:Int)).toNat:Int)=_
 have e1:(BitVec.ofInt 64 ((n*64:Nat):Int)).toNat=n*64:=by
  rw [BitVec.ofInt_natCast,BitVec.toNat_ofNat];exact Nat.mod_eq_of_lt (by omega)
 have e2:(BitVec.ofInt 64 (d:Int)).toNat=d:=by
  rw [BitVec.ofInt_natCast,BitVec.toNat_ofNat];exact Nat.mod_eq_of_lt (by omega)
 rw [BitVec.toNat_or,e1,e2]
 have e3:n*64 ||| d=n*64+d:=by
  have:=Nat.two_pow_add_eq_or_of_lt (i:=6) (b:=d) (by omega) n
  rw [show (2:Nat) ^ 6*n=n*64 by omega] at this
  exact this.symm
 rw [e3,IntKind.wrap_i64]
 omega
def contP:Nat→Nat→Nat→Nat→List UInt8→Nat × Int
 | 0,m,_,_,_=>(m,0)
 | _+1,_,_,_,[]=>(0,4)
 | j+1,m,lo,hi,d :: r=>if d.toNat<lo∨hi<d.toNat then (0,12) else contP j (m*64+d.toNat % 64) 128 191 r
def contR (n:Nat) (p:Nat × Int):Int × Int × Int:=if p.2=0 then ((p.1:Int),(n:Int),0) else (0,0,p.2)
theorem cont2 (c:UInt8) (r:List UInt8) (h:¬ c.toNat<194) (h2:c.toNat<224):nextP (c :: r)=contR 2 (contP 1 (c.toNat % 32) 128 191 r):=by
 rw [next2 r h h2]
 match r with
 | []=>rfl
 | d :: r =>
   rw [next2P,contP]
   by_cases hd:d.toNat<128∨191<d.toNat
   ·rw [if_pos hd,if_pos hd];rfl
   ·rw [if_neg hd,if_neg hd,contP,contR]
    simp only [if_true,Prod.mk.injEq,and_true]
    exact ⟨by omega,rfl⟩
theorem cont3 (c:UInt8) (r:List UInt8) (h:¬ c.toNat<224) (h2:c.toNat<240) (lw hg:Nat) (hl:(c.toNat=224∧lw=160∧hg=191)∨(c.toNat=237∧lw=128∧hg=159)∨(c.toNat≠224∧c.toNat≠237∧lw=128∧hg=191)):nextP (c :: r)=contR 3 (contP 2 (c.toNat % 16) lw hg r):=by
 rw [next3 r h h2]
 match r with
 | []=>rfl
 | d :: r =>
   rw [next3P,contP]
   by_cases hd:ok3 c d
   ·rw [if_pos hd]
    unfold ok3 at hd
    rw [if_neg (by omega)]
    match r with
    | []=>rfl
    | e :: r =>
      rw [next3Q,contP]
      by_cases he:e.toNat<128∨191<e.toNat
      ·rw [if_pos he,if_pos he];rfl
      ·rw [if_neg he,if_neg he,contP,contR]
       simp only [if_true,Prod.mk.injEq,and_true]
       exact ⟨by omega,rfl⟩
   ·rw [if_neg hd]
    unfold ok3 at hd
    rw [if_pos (by omega)];rfl
theorem cont4 (c:UInt8) (r:List UInt8) (h:¬ c.toNat<240) (h2:¬ 244<c.toNat) (lw hg:Nat) (hl:(c.toNat=240∧lw=144∧hg=191)∨(c.toNat=244∧lw=128∧hg=143)∨(c.toNat≠240∧c.toNat≠244∧lw=128∧hg=191)):nextP (c :: r)=contR 4 (contP 3 (c.toNat % 8) lw hg r):=by
 rw [next4 r h h2]
 match r with
 | []=>rfl
 | d :: r =>
   rw [next4P,contP]
   by_cases hd:ok4 c d
   ·rw [if_pos hd]
    unfold ok4 at hd
    rw [if_neg (by omega)]
    match r with
    | []=>rfl
    | e :: r =>
      rw [next4Q,contP]
      by_cases he:e.toNat<128∨191<e.toNat
      ·rw [if_pos he,if_pos he];rfl
      ·rw [if_neg he,if_neg he]
       match r with
       | []=>rfl
       | f :: r =>
         rw [next4R,contP]
         by_cases hf:f.toNat<128∨191<f.toNat
         ·rw [if_pos hf,if_pos hf];rfl
         ·rw [if_neg hf,if_neg hf,contP,contR]
          simp only [if_true,Prod.mk.injEq,and_true]
          exact ⟨by omega,rfl⟩
   ·rw [if_neg hd]
    unfold ok4 at hd
    rw [if_pos (by omega)];rfl
end
section
open Go.RowKit
theorem lead0 (c:Int) (h:¬ c<128) (h2:c<194∨244<c):leadP c=(0,0,0):=by
 unfold leadP
 rw [if_neg h]
 by_cases h3:c<194
 ·rw [if_pos h3]
 ·rw [if_neg h3,if_neg (by omega),if_neg (by omega),if_neg (by omega),if_neg (by omega),if_neg (by omega),if_neg (by omega),if_neg (by omega)]
theorem lead2 (c:Nat) (h:¬ c<194) (h2:c<224):leadP (c:Int)=(2,((128:Nat):Int),((191:Nat):Int)):=by
 unfold leadP
 rw [if_neg (by omega),if_neg (by omega),if_pos (by omega)];rfl
theorem lead3a (c:Nat) (h:c=224):leadP (c:Int)=(3,((160:Nat):Int),((191:Nat):Int)):=by subst h;rfl
theorem lead3b (c:Nat) (h:c=237):leadP (c:Int)=(3,((128:Nat):Int),((159:Nat):Int)):=by subst h;rfl
theorem lead3c (c:Nat) (h:¬ c<224) (h2:c<240) (h3:c≠224) (h4:c≠237):leadP (c:Int)=(3,((128:Nat):Int),((191:Nat):Int)):=by
 unfold leadP
 rw [if_neg (by omega),if_neg (by omega),if_neg (by omega),if_neg (by omega),if_neg (by omega),if_pos (by omega)];rfl
theorem lead4a (c:Nat) (h:c=240):leadP (c:Int)=(4,((144:Nat):Int),((191:Nat):Int)):=by subst h;rfl
theorem lead4b (c:Nat) (h:c=244):leadP (c:Int)=(4,((128:Nat):Int),((143:Nat):Int)):=by subst h;rfl
theorem lead4c (c:Nat) (h:¬ c<240) (h2:c≤244) (h3:c≠240) (h4:c≠244):leadP (c:Int)=(4,((128:Nat):Int),((191:Nat):Int)):=by
 unfold leadP
 rw [if_neg (by omega),if_neg (by omega),if_neg (by omega),if_neg (by omega),if_neg (by omega),if_neg (by omega),if_neg (by omega),if_pos (by omega)];rfl
theorem pow_step (m d k:Nat) (hd:d<64) (h:(m+1)*64 ^ (k+1)≤4194304):(m*64+d+1)*64 ^ k≤4194304:=by
 refine Nat.le_trans ?_ h
 rw [Nat.pow_succ,Nat.mul_comm (64 ^ k) 64,← Nat.mul_assoc]
 exact Nat.mul_le_mul_right _ (by omega)
theorem pow_lt (m k:Nat) (h:(m+1)*64 ^ k≤4194304):m<4194304:=by
 have h1:1≤64 ^ k:=Nat.one_le_pow _ _ (by decide)
 have h2:(m+1)*1≤(m+1)*64 ^ k:=Nat.mul_le_mul_left _ h1
 omega
theorem contR_bad {n:Nat} {e r1 r2 r3:Int} (he:e≠0) (h:contR n (0,e)=(r1,r2,r3)):r1=0∧r2=0∧r3=e:=by
 unfold contR at h
 rw [if_neg he] at h
 simp only [Prod.mk.injEq] at h
 exact ⟨h.1.symm,h.2.1.symm,h.2.2.symm⟩
theorem contR_good {n m:Nat} {r1 r2 r3:Int} (h:contR n (m,0)=(r1,r2,r3)):r1=m∧r2=n∧r3=0:=by
 unfold contR at h
 rw [if_pos rfl] at h
 simp only [Prod.mk.injEq] at h
 exact ⟨h.1.symm,h.2.1.symm,h.2.2.symm⟩
theorem utfNext_2 (s:ByteArray) (a:Nat) (w:World) (hs:s.size≤281474976710656) (ha:a<s.size) (lw0 hg0:Nat) (hlw:lw0≤255) (hhg:hg0≤255) (hlead:Hid (leadP (s[a].toNat:Int)=(2,(lw0:Int),(hg0:Int)))) (r1 r2 r3:Int) (hr:Hid (contR 2 (contP 1 (s[a].toNat % 32) lw0 hg0 (s.data.toList.drop (a+1)))=(r1,r2,r3))) :
 Calls Tryz.prog 173 #[.string s,.int .i64 a] w fun e w'=>e=.returned (.tuple #[.int .i64 r1,.int .i64 r2,.int .i64 r3])∧w=w':=by
 have hc:=u8_lt s[a]
 have d1:(s[a].toNat:Int)≤255:=by omega
 have d2:(0:Int)≤(s[a].toNat:Int):=by omega
 have hmask:bits .and .i64 (s[a].toNat:Int) 31=((s[a].toNat % 32:Nat):Int):=and_low s[a].toNat 5 hc (by decide)
 have hlen:((a:Int) == (s.size:Int))=false:=beq_eq_false_iff_ne.2 (by omega)
 have hlt:¬ (s.size:Int)<(a:Int):=by omega
 have hng:decide ((a:Int)<0)=false:=by simp
 have hm0:s[a].toNat % 32<32:=Nat.mod_lt _ (by decide)
 generalize hm:s[a].toNat % 32=m0 at hmask hr hm0
 clear hm
 go_enter Tryz.func173,Tryz.ntmps173
 go_wp2_with fail
 refine (lead_any _ _ d2 d1 _ _ _ hlead).mono ?_
 rintro e w2 ⟨rfl,rfl⟩
 go_wp2_with fail
 go_loop [4,5,7,8,9] (fun r x lo hi i=>∃ (q m lw hg:Nat),x=.int .i64 2∧a+1≤q∧q≤a+2∧q≤s.size∧lw≤255∧hg≤255∧i=.int .i64 q∧r=.int .i64 m∧lo=.int .u8 lw∧hi=.int .u8 hg∧Hid (contR 2 (contP (a+2 - q) m lw hg (s.data.toList.drop q))=(r1,r2,r3)∧(m+1)*64 ^ (a+2 - q)≤4194304)) (fun _ _ _ _ i=>a+2 - (intOf i).toNat)
 case atStart =>
  refine ⟨a+1,m0,lw0,hg0,rfl,by omega,by omega,by omega,hlw,hhg,by go_num,rfl,rfl,rfl,?_,?_⟩
  ·rw [show a+2 - (a+1)=1 by omega];exact hr.out
  ·rw [show a+2 - (a+1)=1 by omega];omega
 case round =>
  obtain ⟨q,m,lw,hg,rfl,q1,q2,q3,l1,l2,rfl,rfl,rfl,rfl,HQ⟩:=hrel
  have hmb:=pow_lt _ _ HQ.out.2
  by_cases hq:q<a+2
  ·have hq':(q:Int)<(a:Int)+2:=by omega
   by_cases hqs:q<s.size
   ·have hqe:((q:Int) == (s.size:Int))=false:=beq_eq_false_iff_ne.2 (by omega)
    have hdr:s.data.toList.drop q=s[q] :: s.data.toList.drop (q+1):=by
     rw [List.drop_eq_getElem_cons (by rw [size_len];exact hqs)];rfl
    have hd:=u8_lt s[q]
    have g1:(s[q].toNat:Int)≤255:=by omega
    have g2:(0:Int)≤(s[q].toNat:Int):=by omega
    have hst:=HQ.out
    rw [hdr,show a+2 - q=(a+1 - q)+1 by omega,contP] at hst
    by_cases hb:s[q].toNat<lw∨hg<s[q].toNat
    ·rw [if_pos hb] at hst
     obtain ⟨rfl,rfl,rfl⟩:=contR_bad (by decide) hst.1
     have hb2:s[q].toNat<lw∨(¬ s[q].toNat<lw∧hg<s[q].toNat):=by omega
     clear hst hdr HQ hb
     rcases hb2 with hb2 | ⟨hb2,hb3⟩
     all_goals
      go_wp2_with fail
      go_ret3
      exact ⟨rfl,rfl⟩
    ·rw [if_neg hb] at hst
     have hb2:¬ s[q].toNat<lw:=by omega
     have hb3:¬ hg<s[q].toNat:=by omega
     have hm64:s[q].toNat % 64<64:=Nat.mod_lt _ (by decide)
     have h63:=and_63 s[q].toNat hd
     have hor:=or_64 m (s[q].toNat % 64) (by omega) hm64
     have HST:=Lib.hid (And.intro hst.1 (pow_step m (s[q].toNat % 64) _ hm64 hst.2))
     generalize hdd:s[q].toNat % 64=dd at h63 hor HST hm64
     clear hst hdr HQ hb hdd
     have hdd1:(0:Int)≤(dd:Int):=by omega
     have hdd2:(dd:Int)≤63:=by omega
     go_wp2_with fail
     refine ⟨⟨q+1,m*64+dd,128,191,rfl,by omega,by omega,by omega,by omega,by omega,by go_num,by go_num,rfl,rfl,?_⟩,by simp [intOf];omega⟩
     show _∧_
     rw [show a+2 - (q+1)=a+1 - q by omega]
     exact HST.out
   ·have hqe:((q:Int) == (s.size:Int))=true:=by rw [beq_iff_eq];omega
    have hst:=HQ.out.1
    rw [show s.data.toList.drop q=[] from List.drop_of_length_le (by rw [size_len];omega),show a+2 - q=(a+1 - q)+1 by omega,contP] at hst
    obtain ⟨rfl,rfl,rfl⟩:=contR_bad (by decide) hst
    clear hst HQ
    go_wp2_with fail
    go_ret3
    exact ⟨rfl,rfl⟩
  ·have hq':¬ (q:Int)<(a:Int)+2:=by omega
   have hst:=HQ.out.1
   rw [show a+2 - q=0 by omega,contP] at hst
   obtain ⟨rfl,rfl,rfl⟩:=contR_good hst
   clear hst HQ
   go_wp2_with fail
   go_ret3
   exact ⟨rfl,rfl⟩
theorem utfNext_3 (s:ByteArray) (a:Nat) (w:World) (hs:s.size≤281474976710656) (ha:a<s.size) (lw0 hg0:Nat) (hlw:lw0≤255) (hhg:hg0≤255) (hlead:Hid (leadP (s[a].toNat:Int)=(3,(lw0:Int),(hg0:Int)))) (r1 r2 r3:Int) (hr:Hid (contR 3 (contP 2 (s[a].toNat % 16) lw0 hg0 (s.data.toList.drop (a+1)))=(r1,r2,r3))) :
 Calls Tryz.prog 173 #[.string s,.int .i64 a] w fun e w'=>e=.returned (.tuple #[.int .i64 r1,.int .i64 r2,.int .i64 r3])∧w=w':=by
 have hc:=u8_lt s[a]
 have d1:(s[a].toNat:Int)≤255:=by omega
 have d2:(0:Int)≤(s[a].toNat:Int):=by omega
 have hmask:bits .and .i64 (s[a].toNat:Int) 15=((s[a].toNat % 16:Nat):Int):=and_low s[a].toNat 4 hc (by decide)
 have hlen:((a:Int) == (s.size:Int))=false:=beq_eq_false_iff_ne.2 (by omega)
 have hlt:¬ (s.size:Int)<(a:Int):=by omega
 have hng:decide ((a:Int)<0)=false:=by simp
 have hm0:s[a].toNat % 16<16:=Nat.mod_lt _ (by decide)
 generalize hm:s[a].toNat % 16=m0 at hmask hr hm0
 clear hm
 go_enter Tryz.func173,Tryz.ntmps173
 go_wp2_with fail
 refine (lead_any _ _ d2 d1 _ _ _ hlead).mono ?_
 rintro e w2 ⟨rfl,rfl⟩
 go_wp2_with fail
 go_loop [4,5,7,8,9] (fun r x lo hi i=>∃ (q m lw hg:Nat),x=.int .i64 3∧a+1≤q∧q≤a+3∧q≤s.size∧lw≤255∧hg≤255∧i=.int .i64 q∧r=.int .i64 m∧lo=.int .u8 lw∧hi=.int .u8 hg∧Hid (contR 3 (contP (a+3 - q) m lw hg (s.data.toList.drop q))=(r1,r2,r3)∧(m+1)*64 ^ (a+3 - q)≤4194304)) (fun _ _ _ _ i=>a+3 - (intOf i).toNat)
 case atStart =>
  refine ⟨a+1,m0,lw0,hg0,rfl,by omega,by omega,by omega,hlw,hhg,by go_num,rfl,rfl,rfl,?_,?_⟩
  ·rw [show a+3 - (a+1)=2 by omega];exact hr.out
  ·rw [show a+3 - (a+1)=2 by omega];omega
 case round =>
  obtain ⟨q,m,lw,hg,rfl,q1,q2,q3,l1,l2,rfl,rfl,rfl,rfl,HQ⟩:=hrel
  have hmb:=pow_lt _ _ HQ.out.2
  by_cases hq:q<a+3
  ·have hq':(q:Int)<(a:Int)+3:=by omega
   by_cases hqs:q<s.size
   ·have hqe:((q:Int) == (s.size:Int))=false:=beq_eq_false_iff_ne.2 (by omega)
    have hdr:s.data.toList.drop q=s[q] :: s.data.toList.drop (q+1):=by
     rw [List.drop_eq_getElem_cons (by rw [size_len];exact hqs)];rfl
    have hd:=u8_lt s[q]
    have g1:(s[q].toNat:Int)≤255:=by omega
    have g2:(0:Int)≤(s[q].toNat:Int):=by omega
    have hst:=HQ.out
    rw [hdr,show a+3 - q=(a+2 - q)+1 by omega,contP] at hst
    by_cases hb:s[q].toNat<lw∨hg<s[q].toNat
    ·rw [if_pos hb] at hst
     obtain ⟨rfl,rfl,rfl⟩:=contR_bad (by decide) hst.1
     have hb2:s[q].toNat<lw∨(¬ s[q].toNat<lw∧hg<s[q].toNat):=by omega
     clear hst hdr HQ hb
     rcases hb2 with hb2 | ⟨hb2,hb3⟩
     all_goals
      go_wp2_with fail
      go_ret3
      exact ⟨rfl,rfl⟩
    ·rw [if_neg hb] at hst
     have hb2:¬ s[q].toNat<lw:=by omega
     have hb3:¬ hg<s[q].toNat:=by omega
     have hm64:s[q].toNat % 64<64:=Nat.mod_lt _ (by decide)
     have h63:=and_63 s[q].toNat hd
     have hor:=or_64 m (s[q].toNat % 64) (by omega) hm64
     have HST:=Lib.hid (And.intro hst.1 (pow_step m (s[q].toNat % 64) _ hm64 hst.2))
     generalize hdd:s[q].toNat % 64=dd at h63 hor HST hm64
     clear hst hdr HQ hb hdd
     have hdd1:(0:Int)≤(dd:Int):=by omega
     have hdd2:(dd:Int)≤63:=by omega
     go_wp2_with fail
     refine ⟨⟨q+1,m*64+dd,128,191,rfl,by omega,by omega,by omega,by omega,by omega,by go_num,by go_num,rfl,rfl,?_⟩,by simp [intOf];omega⟩
     show _∧_
     rw [show a+3 - (q+1)=a+2 - q by omega]
     exact HST.out
   ·have hqe:((q:Int) == (s.size:Int))=true:=by rw [beq_iff_eq];omega
    have hst:=HQ.out.1
    rw [show s.data.toList.drop q=[] from List.drop_of_length_le (by rw [size_len];omega),show a+3 - q=(a+2 - q)+1 by omega,contP] at hst
    obtain ⟨rfl,rfl,rfl⟩:=contR_bad (by decide) hst
    clear hst HQ
    go_wp2_with fail
    go_ret3
    exact ⟨rfl,rfl⟩
  ·have hq':¬ (q:Int)<(a:Int)+3:=by omega
   have hst:=HQ.out.1
   rw [show a+3 - q=0 by omega,contP] at hst
   obtain ⟨rfl,rfl,rfl⟩:=contR_good hst
   clear hst HQ
   go_wp2_with fail
   go_ret3
   exact ⟨rfl,rfl⟩
theorem utfNext_4 (s:ByteArray) (a:Nat) (w:World) (hs:s.size≤281474976710656) (ha:a<s.size) (lw0 hg0:Nat) (hlw:lw0≤255) (hhg:hg0≤255) (hlead:Hid (leadP (s[a].toNat:Int)=(4,(lw0:Int),(hg0:Int)))) (r1 r2 r3:Int) (hr:Hid (contR 4 (contP 3 (s[a].toNat % 8) lw0 hg0 (s.data.toList.drop (a+1)))=(r1,r2,r3))) :
 Calls Tryz.prog 173 #[.string s,.int .i64 a] w fun e w'=>e=.returned (.tuple #[.int .i64 r1,.int .i64 r2,.int .i64 r3])∧w=w':=by
 have hc:=u8_lt s[a]
 have d1:(s[a].toNat:Int)≤255:=by omega
 have d2:(0:Int)≤(s[a].toNat:Int):=by omega
 have hmask:bits .and .i64 (s[a].toNat:Int) 7=((s[a].toNat % 8:Nat):Int):=and_low s[a].toNat 3 hc (by decide)
 have hlen:((a:Int) == (s.size:Int))=false:=beq_eq_false_iff_ne.2 (by omega)
 have hlt:¬ (s.size:Int)<(a:Int):=by omega
 have hng:decide ((a:Int)<0)=false:=by simp
 have hm0:s[a].toNat % 8<8:=Nat.mod_lt _ (by decide)
 generalize hm:s[a].toNat % 8=m0 at hmask hr hm0
 clear hm
 go_enter Tryz.func173,Tryz.ntmps173
 go_wp2_with fail
 refine (lead_any _ _ d2 d1 _ _ _ hlead).mono ?_
 rintro e w2 ⟨rfl,rfl⟩
 go_wp2_with fail
 go_loop [4,5,7,8,9] (fun r x lo hi i=>∃ (q m lw hg:Nat),x=.int .i64 4∧a+1≤q∧q≤a+4∧q≤s.size∧lw≤255∧hg≤255∧i=.int .i64 q∧r=.int .i64 m∧lo=.int .u8 lw∧hi=.int .u8 hg∧Hid (contR 4 (contP (a+4 - q) m lw hg (s.data.toList.drop q))=(r1,r2,r3)∧(m+1)*64 ^ (a+4 - q)≤4194304)) (fun _ _ _ _ i=>a+4 - (intOf i).toNat)
 case atStart =>
  refine ⟨a+1,m0,lw0,hg0,rfl,by omega,by omega,by omega,hlw,hhg,by go_num,rfl,rfl,rfl,?_,?_⟩
  ·rw [show a+4 - (a+1)=3 by omega];exact hr.out
  ·rw [show a+4 - (a+1)=3 by omega];omega
 case round =>
  obtain ⟨q,m,lw,hg,rfl,q1,q2,q3,l1,l2,rfl,rfl,rfl,rfl,HQ⟩:=hrel
  have hmb:=pow_lt _ _ HQ.out.2
  by_cases hq:q<a+4
  ·have hq':(q:Int)<(a:Int)+4:=by omega
   by_cases hqs:q<s.size
   ·have hqe:((q:Int) == (s.size:Int))=false:=beq_eq_false_iff_ne.2 (by omega)
    have hdr:s.data.toList.drop q=s[q] :: s.data.toList.drop (q+1):=by
     rw [List.drop_eq_getElem_cons (by rw [size_len];exact hqs)];rfl
    have hd:=u8_lt s[q]
    have g1:(s[q].toNat:Int)≤255:=by omega
    have g2:(0:Int)≤(s[q].toNat:Int):=by omega
    have hst:=HQ.out
    rw [hdr,show a+4 - q=(a+3 - q)+1 by omega,contP] at hst
    by_cases hb:s[q].toNat<lw∨hg<s[q].toNat
    ·rw [if_pos hb] at hst
     obtain ⟨rfl,rfl,rfl⟩:=contR_bad (by decide) hst.1
     have hb2:s[q].toNat<lw∨(¬ s[q].toNat<lw∧hg<s[q].toNat):=by omega
     clear hst hdr HQ hb
     rcases hb2 with hb2 | ⟨hb2,hb3⟩
     all_goals
      go_wp2_with fail
      go_ret3
      exact ⟨rfl,rfl⟩
    ·rw [if_neg hb] at hst
     have hb2:¬ s[q].toNat<lw:=by omega
     have hb3:¬ hg<s[q].toNat:=by omega
     have hm64:s[q].toNat % 64<64:=Nat.mod_lt _ (by decide)
     have h63:=and_63 s[q].toNat hd
     have hor:=or_64 m (s[q].toNat % 64) (by omega) hm64
     have HST:=Lib.hid (And.intro hst.1 (pow_step m (s[q].toNat % 64) _ hm64 hst.2))
     generalize hdd:s[q].toNat % 64=dd at h63 hor HST hm64
     clear hst hdr HQ hb hdd
     have hdd1:(0:Int)≤(dd:Int):=by omega
     have hdd2:(dd:Int)≤63:=by omega
     go_wp2_with fail
     refine ⟨⟨q+1,m*64+dd,128,191,rfl,by omega,by omega,by omega,by omega,by omega,by go_num,by go_num,rfl,rfl,?_⟩,by simp [intOf];omega⟩
     show _∧_
     rw [show a+4 - (q+1)=a+3 - q by omega]
     exact HST.out
   ·have hqe:((q:Int) == (s.size:Int))=true:=by rw [beq_iff_eq];omega
    have hst:=HQ.out.1
    rw [show s.data.toList.drop q=[] from List.drop_of_length_le (by rw [size_len];omega),show a+4 - q=(a+3 - q)+1 by omega,contP] at hst
    obtain ⟨rfl,rfl,rfl⟩:=contR_bad (by decide) hst
    clear hst HQ
    go_wp2_with fail
    go_ret3
    exact ⟨rfl,rfl⟩
  ·have hq':¬ (q:Int)<(a:Int)+4:=by omega
   have hst:=HQ.out.1
   rw [show a+4 - q=0 by omega,contP] at hst
   obtain ⟨rfl,rfl,rfl⟩:=contR_good hst
   clear hst HQ
   go_wp2_with fail
   go_ret3
   exact ⟨rfl,rfl⟩
theorem utfNext_1 (s:ByteArray) (a:Nat) (w:World) (ha:a<s.size) (h:s[a].toNat<128) :
 Calls Tryz.prog 173 #[.string s,.int .i64 a] w fun e w'=>e=.returned (.tuple #[.int .i64 (s[a].toNat:Int),.int .i64 1,.int .i64 0])∧w=w':=by
 have d1:(s[a].toNat:Int)≤255:=by omega
 have d2:(0:Int)≤(s[a].toNat:Int):=by omega
 have hlead:leadP (s[a].toNat:Int)=(1,0,0):=by unfold leadP;rw [if_pos (by omega)]
 have HL:=Lib.hid hlead
 have hlen:((a:Int) == (s.size:Int))=false:=beq_eq_false_iff_ne.2 (by omega)
 have hlt:¬ (s.size:Int)<(a:Int):=by omega
 have hng:decide ((a:Int)<0)=false:=by simp
 have hsl:=u8_lt s[a]
 clear hlead
 go_enter Tryz.func173,Tryz.ntmps173
 go_wp2_with fail
 refine (lead_any _ _ d2 d1 _ _ _ HL).mono ?_
 rintro e w2 ⟨rfl,rfl⟩
 go_wp2_with fail
 refine wp_loop_rounds 1 ?_
 rw [rounds_succ]
 go_wp2_with fail
 go_ret3
 exact ⟨rfl,rfl⟩
theorem utfNext_0 (s:ByteArray) (a:Nat) (w:World) (ha:a<s.size) (h:¬ s[a].toNat<128) (h2:s[a].toNat<194∨244<s[a].toNat) :
 Calls Tryz.prog 173 #[.string s,.int .i64 a] w fun e w'=>e=.returned (.tuple #[.int .i64 0,.int .i64 0,.int .i64 12])∧w=w':=by
 have hsl:=u8_lt s[a]
 have d1:(s[a].toNat:Int)≤255:=by omega
 have d2:(0:Int)≤(s[a].toNat:Int):=by omega
 have hlead:leadP (s[a].toNat:Int)=(0,0,0):=by
  exact lead0 _ (by omega) (by omega)
 have HL:=Lib.hid hlead
 have hlen:((a:Int) == (s.size:Int))=false:=beq_eq_false_iff_ne.2 (by omega)
 have hlt:¬ (s.size:Int)<(a:Int):=by omega
 have hng:decide ((a:Int)<0)=false:=by simp
 clear hlead h2 h
 go_enter Tryz.func173,Tryz.ntmps173
 go_wp2_with fail
 refine (lead_any _ _ d2 d1 _ _ _ HL).mono ?_
 rintro e w2 ⟨rfl,rfl⟩
 go_wp2_with fail
 go_ret3
 exact ⟨rfl,rfl⟩
theorem utfNext_in (s:ByteArray) (a:Nat) (w:World) (hs:s.size≤281474976710656) (ha:a<s.size) (r1 r2 r3:Int) (hr:Hid (nextP (s.data.toList.drop a)=(r1,r2,r3))) :
 Calls Tryz.prog 173 #[.string s,.int .i64 a] w fun e w'=>e=.returned (.tuple #[.int .i64 r1,.int .i64 r2,.int .i64 r3])∧w=w':=by
 have hdr:s.data.toList.drop a=s[a] :: s.data.toList.drop (a+1):=by
  rw [List.drop_eq_getElem_cons (by rw [size_len];exact ha)];rfl
 have h:=hr.out
 rw [hdr] at h
 have hsl:=u8_lt s[a]
 by_cases h1:s[a].toNat<128
 ·rw [next1 _ h1] at h
  simp only [Prod.mk.injEq] at h
  obtain ⟨rfl,rfl,rfl⟩:=h
  exact utfNext_1 s a w ha h1
 ·by_cases h2:s[a].toNat<194∨244<s[a].toNat
  ·rw [next_bad _ h1 h2] at h
   simp only [Prod.mk.injEq] at h
   obtain ⟨rfl,rfl,rfl⟩:=h
   exact utfNext_0 s a w ha h1 h2
  ·by_cases h3:s[a].toNat<224
   ·rw [cont2 _ _ (by omega) h3] at h
    exact utfNext_2 s a w hs ha 128 191 (by decide) (by decide) (lead2 _ (by omega) h3) r1 r2 r3 h
   ·by_cases h4:s[a].toNat<240
    ·by_cases e1:s[a].toNat=224
     ·rw [cont3 _ _ h3 h4 160 191 (Or.inl ⟨e1,rfl,rfl⟩)] at h
      exact utfNext_3 s a w hs ha 160 191 (by decide) (by decide) (lead3a _ e1) r1 r2 r3 h
     ·by_cases e2:s[a].toNat=237
      ·rw [cont3 _ _ h3 h4 128 159 (Or.inr (Or.inl ⟨e2,rfl,rfl⟩))] at h
       exact utfNext_3 s a w hs ha 128 159 (by decide) (by decide) (lead3b _ e2) r1 r2 r3 h
      ·rw [cont3 _ _ h3 h4 128 191 (Or.inr (Or.inr ⟨e1,e2,rfl,rfl⟩))] at h
       exact utfNext_3 s a w hs ha 128 191 (by decide) (by decide) (lead3c _ h3 h4 e1 e2) r1 r2 r3 h
    ·by_cases e1:s[a].toNat=240
     ·rw [cont4 _ _ h4 (by omega) 144 191 (Or.inl ⟨e1,rfl,rfl⟩)] at h
      exact utfNext_4 s a w hs ha 144 191 (by decide) (by decide) (lead4a _ e1) r1 r2 r3 h
     ·by_cases e2:s[a].toNat=244
      ·rw [cont4 _ _ h4 (by omega) 128 143 (Or.inr (Or.inl ⟨e2,rfl,rfl⟩))] at h
       exact utfNext_4 s a w hs ha 128 143 (by decide) (by decide) (lead4b _ e2) r1 r2 r3 h
      ·rw [cont4 _ _ h4 (by omega) 128 191 (Or.inr (Or.inr ⟨e1,e2,rfl,rfl⟩))] at h
       exact utfNext_4 s a w hs ha 128 191 (by decide) (by decide) (lead4c _ h4 (by omega) e1 e2) r1 r2 r3 h
end
end

section
section
/-! Strings. -/
def strQ (l out:List UInt8):List UInt8 × Nat × Int:=strGo l.length l out
def strT (out':List UInt8 × Nat × Int) (n:Nat):List UInt8 × Nat × Int:=if out'.2.2≠0 then ([],0,out'.2.2) else (out'.1,out'.2.1+n,0)
theorem strQ_nil (out:List UInt8):strQ [] out=([],0,4):=rfl
theorem strQ_step (c:UInt8) (r out:List UInt8) :
 strQ (c :: r) out=if c.toNat=34 then (out,1,0) else if (itemP (c :: r)).2.2≠0 then ([],0,(itemP (c :: r)).2.2) else if 4096<out.length+(encP (itemP (c :: r)).1).length then ([],0,5)
  else strT (strQ ((c :: r).drop (itemP (c :: r)).2.1) (out++encP (itemP (c :: r)).1)) (itemP (c :: r)).2.1:=by
 rw [strQ,strGo_step _ _ _ _ (Nat.le_refl _)]
 by_cases h1:c.toNat=34
 ·rw [if_pos h1,if_pos h1]
 ·rw [if_neg h1,if_neg h1]
  by_cases h2:(itemP (c :: r)).2.2≠0
  ·rw [if_pos h2,if_pos h2]
  ·rw [if_neg h2,if_neg h2]
   have hf:=strGo_fuel (c :: r).length ((c :: r).drop (itemP (c :: r)).2.1).length ((c :: r).drop (itemP (c :: r)).2.1) (out++encP (itemP (c :: r)).1) (by rw [List.length_drop];omega) (Nat.le_refl _)
   rw [hf]
   rfl
/-! Marks. -/
theorem blank_cases {c:UInt8} (h:isBlank c=true):c.toNat=32∨c.toNat=9∨c.toNat=10∨c.toNat=13:=by
 simp [isBlank] at h
 omega
theorem textP_eq (r:List UInt8):textP r=if (strQ r []).2.2≠0 then .bad (strQ r []).2.2 else ⟨10,(strQ r []).2.1+1,0,(strQ r []).1,0⟩:=rfl
theorem textP_e (r:List UInt8):(textP r).e=(strQ r []).2.2:=by
 rw [textP_eq]
 by_cases h:(strQ r []).2.2≠0
 ·rw [if_pos h];rfl
 ·rw [if_neg h];simpa using (show (strQ r []).2.2=0 by simpa using h).symm
theorem textP_len (r:List UInt8) (h:(textP r).e=0):(textP r).len=(strQ r []).2.1+1:=by
 rw [textP_e] at h
 rw [textP_eq,if_neg (by simpa using h)]
theorem numP_ok {l:List UInt8} (h:(numP l).e=0):(numP l).len=(l.takeWhile Nm.isN).length∧(numP l).k=9∧(numP l).t=[]∧l.takeWhile Nm.isN≠[]:=by
 unfold numP at h ⊢
 by_cases h1:Nm.form (l.takeWhile Nm.isN)=false
 ·rw [if_pos h1] at h;simp [Tok.bad] at h
 ·rw [if_neg h1] at h ⊢
  by_cases h2:-9223372036854775808≤Nm.val (l.takeWhile Nm.isN)∧Nm.val (l.takeWhile Nm.isN)≤9223372036854775807
  ·rw [if_pos h2]
   refine ⟨rfl,rfl,rfl,fun e=>h1 (by rw [e];exact form_nil)⟩
  ·rw [if_neg h2] at h;simp [Tok.bad] at h
theorem wordP_ok {l:List UInt8} (h:(wordP l).e=0):(wordP l).len=(l.takeWhile isLow).length∧((wordP l).k=7∨(wordP l).k=8)∧(wordP l).n=0∧(wordP l).t=[]∧l.takeWhile isLow≠[]:=by
 unfold wordP at h ⊢
 by_cases h1:l.takeWhile isLow=[116,114,117,101]
 ·rw [if_pos h1,h1];simp
 ·rw [if_neg h1] at h ⊢
  by_cases h2:l.takeWhile isLow=[102,97,108,115,101]
  ·rw [if_pos h2,h2];simp
  ·rw [if_neg h2] at h;simp [Tok.bad] at h
theorem tw_len {p:UInt8→Bool} (l:List UInt8):(l.takeWhile p).length≤l.length:=(List.takeWhile_sublist p).length_le
theorem signOf_bd (c:UInt8):0≤signOf c∧signOf c≤6:=by
 unfold signOf
 repeat' split
 all_goals omega
theorem tokP_ok {l:List UInt8} (hl:l≠[]) (h:(tokP l).e=0):1≤(tokP l).len∧(tokP l).len≤l.length∧1≤(tokP l).k∧(tokP l).k≤10∧((tokP l).k≠9→(tokP l).n=0)∧((tokP l).k≠10→(tokP l).t=[]):=by
 match l,hl with
 | c :: l,_ =>
   rw [tokP] at h ⊢
   by_cases h1:signOf c≠0
   ·have:=signOf_bd c
    rw [if_pos h1]
    exact ⟨by simp,by simp,by simp only [];omega,by simp only [];omega,fun _=>rfl,fun _=>rfl⟩
   ·rw [if_neg h1] at h ⊢
    by_cases h2:c.toNat=34
    ·rw [if_pos h2] at h ⊢
     have hlen:=textP_len _ h
     rw [textP_e] at h
     have hok:=strGo_ok _ _ _ h
     have e:textP l=⟨10,(strQ l []).2.1+1,0,(strQ l []).1,0⟩:=by rw [textP_eq,if_neg (by simpa using h)]
     rw [hlen,e]
     unfold strQ
     simp only [List.length_cons]
     exact ⟨by omega,by omega,by omega,by omega,fun _=>trivial,fun hh=>by simp at hh⟩
    ·rw [if_neg h2] at h ⊢
     by_cases h3:numFirst c=true
     ·rw [if_pos h3] at h ⊢
      obtain ⟨a1,a2,a3,a4⟩:=numP_ok h
      have hle:=tw_len (p:=Nm.isN) (c :: l)
      have hpos:=List.length_pos_iff.2 a4
      rw [a1,a2]
      exact ⟨hpos,hle,by omega,by omega,fun hh=>absurd rfl hh,fun _=>a3⟩
     ·rw [if_neg h3] at h ⊢
      obtain ⟨a1,a2,a3,a4,a5⟩:=wordP_ok h
      have hle:=tw_len (p:=isLow) (c :: l)
      have hpos:=List.length_pos_iff.2 a5
      rw [a1]
      exact ⟨hpos,hle,by omega,by omega,fun _=>a3,fun _=>a4⟩
end
section
structure Mk where
 k:Int
 a:Nat
 z:Nat
 n:Int
 t:List UInt8
def Tok.at (x:Tok) (p:Nat):Mk:=⟨x.k,p,p+x.len,x.n,x.t⟩
def tokB (l:List UInt8):Tok:=tokP (l.drop (blanks l))
theorem blanks_le (l:List UInt8):blanks l≤l.length:=tw_len l
theorem blanks_head (l:List UInt8):∀ c r,l.drop (blanks l)=c :: r→isBlank c=false:=by
 induction l with
 | nil=>intro c r h;cases h
 | cons a l ih =>
   intro c r h
   unfold blanks at h ih
   by_cases ha:isBlank a=true
   ·rw [List.takeWhile_cons,if_pos ha,List.length_cons,List.drop_succ_cons] at h
    exact ih c r h
   ·rw [List.takeWhile_cons,if_neg ha] at h
    simp at h
    rw [← h.1];simpa using ha
theorem blanks_zero {c:UInt8} (r:List UInt8) (h:isBlank c=false):blanks (c :: r)=0:=by simp [blanks,h]
theorem tokP_nil:tokP []=⟨11,0,0,[],0⟩:=rfl
theorem tok_end {l:List UInt8} (h:(tokP l).e=0):(tokP l).k=11↔l=[]:=by
 constructor
 ·intro hk
  by_cases hl:l=[]
  ·exact hl
  ·have:=tokP_ok hl h;omega
 ·rintro rfl;rfl
end
section
def nextM (s:List UInt8) (p:Nat):Mk × Int:=if (tokB (s.drop p)).e≠0 then (⟨0,0,0,0,[]⟩,(tokB (s.drop p)).e) else ((tokB (s.drop p)).at (p+blanks (s.drop p)),0)
end
end
end Go.Proofs.YtchinankclckjaaGreatDoor
