/-
 utf.Len and utf.Valid: whether a string is UTF-8, by the runes that ranging over it gives.
 UTF-8, plainly: the rune at the head of bytes, as the program reads it and as the document tells it.
 A string is UTF-8 by ranging over it just if it is rune by rune.
 legateref04: the document's UTF-8, walked.
-/
import Derived.Test.YtchinankclckjaaGreatDoorValA
import Derived.Test.YtchinankclckjaaGreatDoorShelf
import Derived.Lib.RuneCount
import Derived.Lib.OthersKept
import Derived.Lib.TrimUEq
import Derived.Deep.QuietTactic
import Derived.BigQuiet
import Derived.IntWalk
namespace Go.Proofs.YtchinankclckjaaGreatDoor
set_option maxHeartbeats 4000000
set_option maxRecDepth 100000
section
open Go.RowKit
def badAt (s:ByteArray) (pos:Nat):Bool:=decide ((Utf8.decode s pos).1=65533) && !Lib.hasPrefix (s.data.toList.drop pos) [239,191,189]
def utfGo (s:ByteArray):Nat→Nat→Bool
 | 0,_=>true
 | f+1,pos=>if pos<s.size then (if badAt s pos then false else utfGo s f (pos+(Utf8.decode s pos).2)) else true
def utfOK (s:ByteArray):Bool:=utfGo s s.size 0
def LenPost (s:ByteArray) (w:World) (e:Ending) (w':World):Prop :=
 ∃ n:Int,e=.returned (.tuple #[.int .i64 n,.bool (utfOK s)])∧Below w.heap.size w w'
theorem utfGo_end (s:ByteArray) (f pos:Nat) (h:¬ pos<s.size):utfGo s f pos=true:=by
 cases f with
 | zero=>rfl
 | succ f=>rw [utfGo,if_neg h]
theorem utfLen_any (s:ByteArray) (w:World) (hs:s.size≤maxLen) :
 Calls Tryz.prog 136 #[.string s] w (LenPost s w):=by
 unfold maxLen at hs
 go_enter Tryz.func136,Tryz.ntmps136
 go_wp2_with fail
 go_loopw [4] (fun n wr=>∃ (pos fuel:Nat) (m:Int),n=.int .i64 m∧0≤m∧m≤(pos:Int)∧wr.heap[w.heap.size]?=some (.stringIter s pos)∧Below w.heap.size w wr∧Hid (utfGo s fuel pos=utfOK s)∧s.size≤pos+fuel) (fun _ wr=>s.size - wr.iterPos w.heap.size)
 case atStart =>
  refine ⟨0,s.size,0,rfl,by omega,by omega,?_,(Below.refl _ w).alloc (Nat.le_refl _) _,rfl,by omega⟩
  exact World.iter_heap w s 0
 case round =>
  obtain ⟨pos,fuel,m,rfl,m0,m1,hit,hbw,HG,hfu⟩:=hrel
  by_cases hp:pos<s.size
  ·have hnx:∀ ty,(Instr.next (.pointer (some ⟨w.heap.size,0,none⟩)) true ty).run Tryz.prog wr=_:=fun ty=>Lib.run_next_any_at wr w.heap.size s pos ty hit hp
   have hwd:=Lib.decode_width_pos s pos hp
   have hit2:=Lib.iterAt_heap wr w.heap.size s pos (pos+(Utf8.decode s pos).2) hit
   have hbw2:=Lib.below_iterAt hbw (k:=w.heap.size) (by omega) s (pos+(Utf8.decode s pos).2)
   obtain ⟨f,rfl⟩:∃ f,fuel=f+1:=⟨fuel - 1,by omega⟩
   have hgo:utfGo s (f+1) pos=if badAt s pos then false else utfGo s f (pos+(Utf8.decode s pos).2):=by rw [utfGo,if_pos hp]
   have HGo:=Lib.hid (hgo.symm.trans HG.out)
   have HIT:=Lib.hid hit
   have HIT2:=Lib.hid hit2
   clear hgo HG hit hit2
   by_cases hr:(Utf8.decode s pos).1=65533
   ·have hrb:(((Utf8.decode s pos).1:Int) == 65533)=true:=by rw [hr];rfl
    have HR:=Lib.hid hr
    clear hr
    go_wp2_with fail
    refine (Tryz.strings_HasPrefix _ _ _).mono ?_
    rintro e w' ⟨rfl,rfl⟩
    rw [Lib.extract_to_end]
    by_cases hpre:Lib.hasPrefix (s.data.toList.drop pos) [239,191,189]=true
    ·have hb:badAt s pos=false:=by simp [badAt,hpre]
     have HB:=Lib.hid hb
     clear hb
     go_wp2_with fail
     refine ⟨⟨pos+(Utf8.decode s pos).2,f,m+1,rfl,by omega,by omega,HIT2.out,hbw2,?_,by omega⟩,?_⟩
     ·have:=HGo.out
      rw [HB.out] at this
      exact this
     ·simp only [World.iterPos,HIT2.out,HIT.out]
      omega
    ·have hpf:Lib.hasPrefix (s.data.toList.drop pos) [239,191,189]=false:=by simpa using hpre
     have hb:badAt s pos=true:=by simp [badAt,hpf,HR.out]
     have HB:=Lib.hid hb
     have hno:=HGo.out
     rw [hb] at hno
     have HNO:=Lib.hid hno
     clear hb hpre HB hno
     go_wp2_with fail
     go_ret2
     exact ⟨0,by rw [← HNO.out];rfl,hbw2⟩
   ·have hrb:(((Utf8.decode s pos).1:Int) == 65533)=false:=beq_eq_false_iff_ne.2 (by omega)
    have hb:badAt s pos=false:=by simp [badAt,hr]
    have HB:=Lib.hid hb
    clear hb hr
    go_wp2_with fail
    refine ⟨⟨pos+(Utf8.decode s pos).2,f,m+1,rfl,by omega,by omega,HIT2.out,hbw2,?_,by omega⟩,?_⟩
    ·have:=HGo.out
     rw [HB.out] at this
     exact this
    ·simp only [World.iterPos,HIT2.out,HIT.out]
     omega
  ·have hnx:∀ ty,(Instr.next (.pointer (some ⟨w.heap.size,0,none⟩)) true ty).run Tryz.prog wr=_:=fun ty=>Lib.run_next_end_at wr w.heap.size s pos ty hit hp
   have hok:utfOK s=true:=by rw [← HG.out,utfGo_end s fuel pos hp]
   have HK:=Lib.hid hok
   clear hok
   go_wp2_with fail
   go_ret2
   exact ⟨m,by rw [HK.out];rfl,hbw⟩
theorem utfValid_any (s:ByteArray) (w:World) (hs:s.size≤maxLen) :
 Calls Tryz.prog 124 #[.string s] w fun e w'=>e=.returned (.bool (utfOK s))∧Below w.heap.size w w':=by
 go_enter Tryz.func124,Tryz.ntmps124
 go_wp2_with fail
 refine (utfLen_any s _ hs).mono ?_
 rintro e w' ⟨n,rfl,hb⟩
 go_wp2_with fail
 go_ret
 exact ⟨rfl,hb⟩
end
section
open Go.RowKit
def next2P (c:UInt8):List UInt8→Int × Int × Int
 | []=>(0,0,4)
 | d :: _=>if d.toNat<128∨191<d.toNat then (0,0,12) else (((c.toNat:Int) - 192)*64+((d.toNat:Int) - 128),2,0)
def next3Q (c d:UInt8):List UInt8→Int × Int × Int
 | []=>(0,0,4)
 | e :: _=>if e.toNat<128∨191<e.toNat then (0,0,12) else (((c.toNat:Int) - 224)*4096+((d.toNat:Int) - 128)*64+((e.toNat:Int) - 128),3,0)
def ok3 (c d:UInt8):Prop:=128≤d.toNat∧d.toNat≤191∧¬ (c.toNat=224∧d.toNat<160)∧¬ (c.toNat=237∧159<d.toNat)
def ok4 (c d:UInt8):Prop:=128≤d.toNat∧d.toNat≤191∧¬ (c.toNat=240∧d.toNat<144)∧¬ (c.toNat=244∧143<d.toNat)
instance (c d:UInt8):Decidable (ok3 c d):=by unfold ok3;infer_instance
instance (c d:UInt8):Decidable (ok4 c d):=by unfold ok4;infer_instance
def next3P (c:UInt8):List UInt8→Int × Int × Int
 | []=>(0,0,4)
 | d :: r=>if ok3 c d then next3Q c d r else (0,0,12)
def next4R (c d e:UInt8):List UInt8→Int × Int × Int
 | []=>(0,0,4)
 | f :: _=>if f.toNat<128∨191<f.toNat then (0,0,12) else (((c.toNat:Int) - 240)*262144+((d.toNat:Int) - 128)*4096+((e.toNat:Int) - 128)*64+((f.toNat:Int) - 128),4,0)
def next4Q (c d:UInt8):List UInt8→Int × Int × Int
 | []=>(0,0,4)
 | e :: r=>if e.toNat<128∨191<e.toNat then (0,0,12) else next4R c d e r
def next4P (c:UInt8):List UInt8→Int × Int × Int
 | []=>(0,0,4)
 | d :: r=>if ok4 c d then next4Q c d r else (0,0,12)
def nextP:List UInt8→Int × Int × Int
 | []=>(0,0,4)
 | c :: r =>
   if c.toNat<128 then ((c.toNat:Int),1,0)
   else if c.toNat<194∨244<c.toNat then (0,0,12)
   else if c.toNat<224 then next2P c r
   else if c.toNat<240 then next3P c r
   else next4P c r
theorem u8_lt (c:UInt8):c.toNat<256:=UInt8.toNat_lt c
/-! The document's way: do bytes begin a rune? -/
def byteAt (l:List UInt8) (i:Nat):Int:=((l.getD i 0).toNat:Int)
def lo (l:List UInt8) (base:Int):Nat→Int
 | 0=>byteAt l 0 - base
 | k+1=>64*lo l base k+(if k+1<l.length then byteAt l (k+1) - 128 else 0)
def hi (l:List UInt8) (base:Int):Nat→Int
 | 0=>byteAt l 0 - base
 | k+1=>64*hi l base k+(if k+1<l.length then byteAt l (k+1) - 128 else 63)
def contTo (l:List UInt8) (k:Nat):Bool:=(List.range k).all fun i=>decide (128≤byteAt l (i+1)) && decide (byteAt l (i+1)≤191)
def baseOf (size:Nat):Int:=if size=2 then 192 else if size=3 then 224 else 240
def leastOf (size:Nat):Int:=if size=2 then 128 else if size=3 then 2048 else 65536
def beginsB (l:List UInt8) (size:Nat):Bool :=
 contTo l (min (l.length - 1) (size - 1)) &&
  (!(decide (55296≤max (lo l (baseOf size) (size - 1)) (leastOf size)) && decide (min (hi l (baseOf size) (size - 1)) 1114111≤57343)) && decide (max (lo l (baseOf size) (size - 1)) (leastOf size)≤min (hi l (baseOf size) (size - 1)) 1114111))
def wrongFrom (l:List UInt8) (size:Nat):Nat→Nat→Int
 | 0,_=>0
 | f+1,n=>if l.length<n then 4 else if beginsB (l.take n) size=false then 12 else wrongFrom l size f (n+1)
def sizeOf8 (b:Nat):Nat:=if b<224 then 2 else if b<240 then 3 else 4
def refNextP:List UInt8→Int × Int × Int
 | []=>(0,0,4)
 | c :: r =>
   if c.toNat<128 then ((c.toNat:Int),1,0)
   else if c.toNat<192∨247<c.toNat then (0,0,12)
   else if wrongFrom (c :: r) (sizeOf8 c.toNat) (sizeOf8 c.toNat) 1=0 then (lo (c :: r) (baseOf (sizeOf8 c.toNat)) (sizeOf8 c.toNat - 1),(sizeOf8 c.toNat:Int),0)
   else (0,0,wrongFrom (c :: r) (sizeOf8 c.toNat) (sizeOf8 c.toNat) 1)
theorem next1 {c:UInt8} (r:List UInt8) (h:c.toNat<128):nextP (c :: r)=((c.toNat:Int),1,0):=by
 rw [nextP,if_pos h]
theorem next_bad {c:UInt8} (r:List UInt8) (h0:¬ c.toNat<128) (h:c.toNat<194∨244<c.toNat):nextP (c :: r)=(0,0,12):=by
 rw [nextP,if_neg h0,if_pos h]
theorem next2 {c:UInt8} (r:List UInt8) (h0:¬ c.toNat<194) (h:c.toNat<224):nextP (c :: r)=next2P c r:=by
 rw [nextP,if_neg (by omega),if_neg (by omega),if_pos h]
theorem next3 {c:UInt8} (r:List UInt8) (h0:¬ c.toNat<224) (h:c.toNat<240):nextP (c :: r)=next3P c r:=by
 rw [nextP,if_neg (by omega),if_neg (by omega),if_neg (by omega),if_pos h]
theorem next4 {c:UInt8} (r:List UInt8) (h0:¬ c.toNat<240) (h:¬ 244<c.toNat):nextP (c :: r)=next4P c r:=by
 rw [nextP,if_neg (by omega),if_neg (by omega),if_neg (by omega),if_neg (by omega)]
/-! Which beginnings there are, by how many bytes stand there. -/
theorem beg_iff (l:List UInt8) (size:Nat):beginsB l size=true↔contTo l (min (l.length - 1) (size - 1))=true∧¬ (55296≤max (lo l (baseOf size) (size - 1)) (leastOf size)∧min (hi l (baseOf size) (size - 1)) 1114111≤57343)∧max (lo l (baseOf size) (size - 1)) (leastOf size)≤min (hi l (baseOf size) (size - 1)) 1114111:=by
 unfold beginsB
 simp only [Bool.and_eq_true,Bool.not_eq_true',Bool.and_eq_false_iff,decide_eq_false_iff_not,decide_eq_true_eq]
 constructor
 ·rintro ⟨h1,h2,h3⟩;exact ⟨h1,fun h=>by rcases h2 with h2 | h2 <;> omega,h3⟩
 ·rintro ⟨h1,h2,h3⟩;exact ⟨h1,by omega,h3⟩
theorem bool_of {p:Bool} {q:Prop} [Decidable q] (h:p=true↔q):p=decide q:=by
 cases p <;> by_cases hq:q <;> simp_all
theorem beg21 (c:UInt8) (h:192≤c.toNat) (h2:c.toNat<224):beginsB [c] 2=decide (194≤c.toNat) :=
 bool_of ((beg_iff _ _).trans (by simp [contTo,lo,hi,byteAt,baseOf,leastOf];omega))
theorem beg22 (c d:UInt8) (h:194≤c.toNat) (h2:c.toNat<224):beginsB [c,d] 2=decide (128≤d.toNat∧d.toNat≤191) :=
 bool_of ((beg_iff _ _).trans (by simp [contTo,lo,hi,byteAt,baseOf,leastOf];omega))
theorem beg31 (c:UInt8) (h:224≤c.toNat) (h2:c.toNat<240):beginsB [c] 3=true :=
 (beg_iff _ _).2 (by simp [contTo,lo,hi,byteAt,baseOf,leastOf];omega)
theorem beg32 (c d:UInt8) (h:224≤c.toNat) (h2:c.toNat<240):beginsB [c,d] 3=decide (ok3 c d) :=
 bool_of ((beg_iff _ _).trans (by unfold ok3;simp [contTo,lo,hi,byteAt,baseOf,leastOf];omega))
theorem beg33 (c d e:UInt8) (h:224≤c.toNat) (h2:c.toNat<240) (hd:ok3 c d):beginsB [c,d,e] 3=decide (128≤e.toNat∧e.toNat≤191) :=
 bool_of ((beg_iff _ _).trans (by unfold ok3 at hd;simp [contTo,lo,hi,byteAt,baseOf,leastOf,List.range_succ];omega))
theorem beg41 (c:UInt8) (h:240≤c.toNat) (h2:c.toNat<248):beginsB [c] 4=decide (c.toNat≤244) :=
 bool_of ((beg_iff _ _).trans (by simp [contTo,lo,hi,byteAt,baseOf,leastOf];omega))
theorem beg42 (c d:UInt8) (h:240≤c.toNat) (h2:c.toNat≤244):beginsB [c,d] 4=decide (ok4 c d) :=
 bool_of ((beg_iff _ _).trans (by unfold ok4;simp [contTo,lo,hi,byteAt,baseOf,leastOf];omega))
theorem beg43 (c d e:UInt8) (h:240≤c.toNat) (h2:c.toNat≤244) (hd:ok4 c d):beginsB [c,d,e] 4=decide (128≤e.toNat∧e.toNat≤191) :=
 bool_of ((beg_iff _ _).trans (by unfold ok4 at hd;simp [contTo,lo,hi,byteAt,baseOf,leastOf,List.range_succ];omega))
theorem beg44 (c d e f:UInt8) (h:240≤c.toNat) (h2:c.toNat≤244) (hd:ok4 c d) (he:128≤e.toNat∧e.toNat≤191):beginsB [c,d,e,f] 4=decide (128≤f.toNat∧f.toNat≤191) :=
 bool_of ((beg_iff _ _).trans (by unfold ok4 at hd;simp [contTo,lo,hi,byteAt,baseOf,leastOf,List.range_succ];omega))
theorem wrong_step (l:List UInt8) (size f n:Nat):wrongFrom l size (f+1) n=if l.length<n then 4 else if beginsB (l.take n) size=false then 12 else wrongFrom l size f (n+1):=rfl
theorem refNext_eq (l:List UInt8):refNextP l=nextP l:=by
 match l with
 | []=>rfl
 | c :: r =>
   have hc:=u8_lt c
   rw [refNextP]
   by_cases h1:c.toNat<128
   ·rw [if_pos h1,next1 r h1]
   ·rw [if_neg h1]
    by_cases h2:c.toNat<192∨247<c.toNat
    ·rw [if_pos h2,next_bad r h1 (by omega)]
    ·rw [if_neg h2]
     by_cases h3:c.toNat<224
     ·have e:sizeOf8 c.toNat=2:=by unfold sizeOf8;rw [if_pos h3]
      rw [e]
      have w1:wrongFrom (c :: r) 2 2 1=if beginsB [c] 2=false then 12 else wrongFrom (c :: r) 2 1 2:=by
       rw [wrong_step,if_neg (by simp)];rfl
      rw [beg21 c (by omega) h3] at w1
      by_cases h4:194≤c.toNat
      ·rw [decide_eq_true h4,if_neg (show ¬ (true=false) by simp)] at w1
       rw [next2 r (by omega) h3,w1]
       match r with
       | []=>rfl
       | d :: r =>
         have w2:wrongFrom (c :: d :: r) 2 1 2=if beginsB [c,d] 2=false then 12 else 0:=by
          rw [wrong_step,if_neg (by simp)];rfl
         rw [w2,beg22 c d h4 h3,next2P]
         by_cases hd:128≤d.toNat∧d.toNat≤191
         ·rw [decide_eq_true hd,if_neg (show ¬ (true=false) by simp),if_pos rfl,if_neg (by omega)]
          simp [lo,byteAt,baseOf];omega
         ·rw [decide_eq_false hd,if_pos rfl,if_neg (by decide),if_pos (by omega)]
      ·rw [next_bad r h1 (by omega),w1,decide_eq_false h4,if_pos rfl];rfl
     ·by_cases h5:c.toNat<240
      ·have e:sizeOf8 c.toNat=3:=by unfold sizeOf8;rw [if_neg h3,if_pos h5]
       rw [e]
       have w1:wrongFrom (c :: r) 3 3 1=if beginsB [c] 3=false then 12 else wrongFrom (c :: r) 3 2 2:=by
        rw [wrong_step,if_neg (by simp)];rfl
       rw [beg31 c (by omega) h5,if_neg (by simp)] at w1
       rw [next3 r h3 h5,w1]
       match r with
       | []=>rfl
       | d :: r =>
         have w2:wrongFrom (c :: d :: r) 3 2 2=if beginsB [c,d] 3=false then 12 else wrongFrom (c :: d :: r) 3 1 3:=by
          rw [wrong_step,if_neg (by simp)];rfl
         rw [w2,beg32 c d (by omega) h5,next3P]
         by_cases hd:ok3 c d
         ·rw [decide_eq_true hd,if_neg (show ¬ (true=false) by simp),if_pos hd]
          match r with
          | []=>rfl
          | f :: r =>
            have w3:wrongFrom (c :: d :: f :: r) 3 1 3=if beginsB [c,d,f] 3=false then 12 else 0:=by
             rw [wrong_step,if_neg (by simp)];rfl
            rw [w3,beg33 c d f (by omega) h5 hd,next3Q]
            by_cases hf:128≤f.toNat∧f.toNat≤191
            ·rw [decide_eq_true hf,if_neg (show ¬ (true=false) by simp),if_pos rfl,if_neg (by omega)]
             simp [lo,byteAt,baseOf];omega
            ·rw [decide_eq_false hf,if_pos rfl,if_neg (by decide),if_pos (by omega)]
         ·rw [decide_eq_false hd,if_pos rfl,if_neg (by decide),if_neg hd]
      ·have e:sizeOf8 c.toNat=4:=by unfold sizeOf8;rw [if_neg h3,if_neg h5]
       rw [e]
       have w1:wrongFrom (c :: r) 4 4 1=if beginsB [c] 4=false then 12 else wrongFrom (c :: r) 4 3 2:=by
        rw [wrong_step,if_neg (by simp)];rfl
       rw [beg41 c (by omega) (by omega)] at w1
       by_cases h6:c.toNat≤244
       ·rw [next4 r h5 (by omega),w1,decide_eq_true h6,if_neg (show ¬ (true=false) by simp)]
        match r with
        | []=>rfl
        | d :: r =>
          have w2:wrongFrom (c :: d :: r) 4 3 2=if beginsB [c,d] 4=false then 12 else wrongFrom (c :: d :: r) 4 2 3:=by
           rw [wrong_step,if_neg (by simp)];rfl
          rw [w2,beg42 c d (by omega) h6,next4P]
          by_cases hd:ok4 c d
          ·rw [decide_eq_true hd,if_neg (show ¬ (true=false) by simp),if_pos hd]
           match r with
           | []=>rfl
           | f :: r =>
             have w3:wrongFrom (c :: d :: f :: r) 4 2 3=if beginsB [c,d,f] 4=false then 12 else wrongFrom (c :: d :: f :: r) 4 1 4:=by
              rw [wrong_step,if_neg (by simp)];rfl
             rw [w3,beg43 c d f (by omega) h6 hd,next4Q]
             by_cases hf:128≤f.toNat∧f.toNat≤191
             ·rw [decide_eq_true hf,if_neg (show ¬ (true=false) by simp),if_neg (show ¬ (f.toNat<128∨191<f.toNat) by omega)]
              match r with
              | []=>rfl
              | g :: r =>
                have w4:wrongFrom (c :: d :: f :: g :: r) 4 1 4=if beginsB [c,d,f,g] 4=false then 12 else 0:=by
                 rw [wrong_step,if_neg (by simp)];rfl
                rw [w4,beg44 c d f g (by omega) h6 hd hf,next4R]
                by_cases hg:128≤g.toNat∧g.toNat≤191
                ·rw [decide_eq_true hg,if_neg (show ¬ (true=false) by simp),if_pos rfl,if_neg (by omega)]
                 simp [lo,byteAt,baseOf];omega
                ·rw [decide_eq_false hg,if_pos rfl,if_neg (by decide),if_pos (by omega)]
             ·rw [decide_eq_false hf,if_pos rfl,if_neg (by decide),if_pos (by omega)]
          ·rw [decide_eq_false hd,if_pos rfl,if_neg (by decide),if_neg hd]
       ·rw [next_bad r h1 (by omega),w1,decide_eq_false h6,if_pos rfl];rfl
end
section
open Go.RowKit
open Go.Lib (decodeN decodeL)
theorem decN_bad (n b0 b1 b2 b3:Nat) (h:128≤b0) (h0:b0<194∨244<b0∨n<2∨¬ (128≤b1∧b1≤191)∨(224≤b0∧(n<3∨¬ (128≤b2∧b2≤191)))∨(240≤b0∧(n<4∨¬ (128≤b3∧b3≤191)))∨(b0=224∧b1<160)∨(b0=237∧159<b1)∨(b0=240∧b1<144)∨(b0=244∧143<b1)) (k0:b0<256) (k1:b1<256) (k2:b2<256) (k3:b3<256):decodeN n b0 b1 b2 b3=(65533,1):=by
 unfold decodeN
 rw [if_neg (by omega)]
 split
 ·rw [if_neg (by omega)]
 ·split
  ·rw [if_neg (by omega)]
  ·split
   ·rw [if_neg (by omega)]
   ·rfl
theorem decN_2 (n b0 b1 b2 b3:Nat) (h:194≤b0) (h0:b0<224) (hn:2≤n) (h1:128≤b1) (h2:b1≤191):decodeN n b0 b1 b2 b3=((b0 - 192)*64+(b1 - 128),2):=by
 unfold decodeN
 rw [if_neg (by omega),if_pos (by omega),if_pos (by omega)]
 simp only [Prod.mk.injEq,and_true];omega
theorem decN_3 (n b0 b1 b2 b3:Nat) (h:224≤b0) (h0:b0<240) (hn:3≤n) (h1:128≤b1) (h2:b1≤191) (h3:128≤b2) (h4:b2≤191) (h5:¬ (b0=224∧b1<160)) (h6:¬ (b0=237∧159<b1)):decodeN n b0 b1 b2 b3=((b0 - 224)*4096+(b1 - 128)*64+(b2 - 128),3):=by
 unfold decodeN
 rw [if_neg (by omega),if_neg (by omega),if_pos (by omega),if_pos (by omega)]
 simp only [Prod.mk.injEq,and_true];omega
theorem decN_4 (n b0 b1 b2 b3:Nat) (h:240≤b0) (h0:b0≤244) (hn:4≤n) (h1:128≤b1) (h2:b1≤191) (h3:128≤b2) (h4:b2≤191) (h3':128≤b3) (h4':b3≤191) (h5:¬ (b0=240∧b1<144)) (h6:¬ (b0=244∧143<b1)):decodeN n b0 b1 b2 b3=((b0 - 240)*262144+(b1 - 128)*4096+(b2 - 128)*64+(b3 - 128),4):=by
 unfold decodeN
 rw [if_neg (by omega),if_neg (by omega),if_neg (by omega),if_pos (by omega),if_pos (by omega)]
 simp only [Prod.mk.injEq,and_true];omega
theorem decodeN_1 (n b0 b1 b2 b3:Nat) (h:b0<128):decodeN n b0 b1 b2 b3=(b0,1):=by unfold decodeN;rw [if_pos h]
def DecIs (l:List UInt8):Prop:=((nextP l).2.2=0∧((decodeL l).1:Int)=(nextP l).1∧((decodeL l).2:Int)=(nextP l).2.1)∨((nextP l).2.2≠0∧decodeL l=(65533,1))
theorem dec_is (c:UInt8) (r:List UInt8):DecIs (c :: r):=by
 unfold DecIs
 rw [Lib.decodeL_N]
 have hc:=u8_lt c
 have hb1:=u8_lt ((c :: r).getD 1 0)
 have hb2:=u8_lt ((c :: r).getD 2 0)
 have hb3:=u8_lt ((c :: r).getD 3 0)
 rw [show (c :: r).getD 0 0=c from rfl]
 by_cases h1:c.toNat<128
 ·rw [next1 r h1,decodeN_1 _ _ _ _ _ h1];exact Or.inl ⟨rfl,rfl,rfl⟩
 ·by_cases h2:c.toNat<194∨244<c.toNat
  ·rw [next_bad r h1 h2,decN_bad _ _ _ _ _ (by omega) (by omega) hc hb1 hb2 hb3];exact Or.inr ⟨by decide,rfl⟩
  ·by_cases h3:c.toNat<224
   ·rw [next2 r (by omega) h3]
    match r with
    | []=>rw [decN_bad _ _ _ _ _ (by omega) (by simp) hc hb1 hb2 hb3];exact Or.inr ⟨by simp [next2P],rfl⟩
    | d :: r =>
      rw [next2P]
      rw [show (c :: d :: r).getD 1 0=d from rfl] at hb1 ⊢
      by_cases hd:d.toNat<128∨191<d.toNat
      ·rw [if_pos hd,decN_bad _ _ _ _ _ (by omega) (by omega) hc hb1 hb2 hb3];exact Or.inr ⟨by decide,rfl⟩
      ·rw [if_neg hd,decN_2 _ _ _ _ _ (by omega) h3 (by simp) (by omega) (by omega)]
       exact Or.inl ⟨rfl,by simp only [];omega,rfl⟩
   ·by_cases h5:c.toNat<240
    ·rw [next3 r h3 h5]
     match r with
     | []=>rw [decN_bad _ _ _ _ _ (by omega) (by simp) hc hb1 hb2 hb3];exact Or.inr ⟨by simp [next3P],rfl⟩
     | d :: r =>
       rw [next3P]
       rw [show (c :: d :: r).getD 1 0=d from rfl] at hb1 ⊢
       by_cases hd:ok3 c d
       ·rw [if_pos hd]
        unfold ok3 at hd
        match r with
        | []=>rw [decN_bad _ _ _ _ _ (by omega) (by simp;omega) hc hb1 hb2 hb3];exact Or.inr ⟨by simp [next3Q],rfl⟩
        | e :: r =>
          rw [next3Q]
          rw [show (c :: d :: e :: r).getD 2 0=e from rfl] at hb2 ⊢
          by_cases he:e.toNat<128∨191<e.toNat
          ·rw [if_pos he,decN_bad _ _ _ _ _ (by omega) (by omega) hc hb1 hb2 hb3];exact Or.inr ⟨by decide,rfl⟩
          ·rw [if_neg he,decN_3 _ _ _ _ _ (by omega) h5 (by simp) (by omega) (by omega) (by omega) (by omega) (by omega) (by omega)]
           exact Or.inl ⟨rfl,by simp only [];omega,rfl⟩
       ·rw [if_neg hd]
        unfold ok3 at hd
        rw [decN_bad _ _ _ _ _ (by omega) (by omega) hc hb1 hb2 hb3];exact Or.inr ⟨by decide,rfl⟩
    ·rw [next4 r h5 (by omega)]
     match r with
     | []=>rw [decN_bad _ _ _ _ _ (by omega) (by simp) hc hb1 hb2 hb3];exact Or.inr ⟨by simp [next4P],rfl⟩
     | d :: r =>
       rw [next4P]
       rw [show (c :: d :: r).getD 1 0=d from rfl] at hb1 ⊢
       by_cases hd:ok4 c d
       ·rw [if_pos hd]
        unfold ok4 at hd
        match r with
        | []=>rw [decN_bad _ _ _ _ _ (by omega) (by simp;omega) hc hb1 hb2 hb3];exact Or.inr ⟨by simp [next4Q],rfl⟩
        | e :: r =>
          rw [next4Q]
          rw [show (c :: d :: e :: r).getD 2 0=e from rfl] at hb2 ⊢
          by_cases he:e.toNat<128∨191<e.toNat
          ·rw [if_pos he,decN_bad _ _ _ _ _ (by omega) (by omega) hc hb1 hb2 hb3];exact Or.inr ⟨by decide,rfl⟩
          ·rw [if_neg he]
           match r with
           | []=>rw [decN_bad _ _ _ _ _ (by omega) (by simp;omega) hc hb1 hb2 hb3];exact Or.inr ⟨by simp [next4R],rfl⟩
           | f :: r =>
             rw [next4R]
             rw [show (c :: d :: e :: f :: r).getD 3 0=f from rfl] at hb3 ⊢
             by_cases hf:f.toNat<128∨191<f.toNat
             ·rw [if_pos hf,decN_bad _ _ _ _ _ (by omega) (by omega) hc hb1 hb2 hb3];exact Or.inr ⟨by decide,rfl⟩
             ·rw [if_neg hf,decN_4 _ _ _ _ _ (by omega) (by omega) (by simp) (by omega) (by omega) (by omega) (by omega) (by omega) (by omega) (by omega) (by omega)]
              exact Or.inl ⟨rfl,by simp only [];omega,rfl⟩
       ·rw [if_neg hd]
        unfold ok4 at hd
        rw [decN_bad _ _ _ _ _ (by omega) (by omega) hc hb1 hb2 hb3];exact Or.inr ⟨by decide,rfl⟩
theorem next_fffd {l:List UInt8} (h:Lib.hasPrefix l [239,191,189]=true):nextP l=(65533,3,0):=by
 unfold Lib.hasPrefix at h
 match l,h with
 | [],h=>simp [List.isPrefixOf] at h
 | [c],h=>simp [List.isPrefixOf] at h
 | [c,d],h=>simp [List.isPrefixOf] at h
 | c :: d :: e :: r,h =>
   simp only [List.isPrefixOf,Bool.and_eq_true,beq_iff_eq,Bool.and_true] at h
   obtain ⟨rfl,rfl,rfl⟩:=h
   rfl
theorem fffd_next (c:UInt8) (r:List UInt8) (h:(nextP (c :: r)).2.2=0) (h2:(nextP (c :: r)).1=65533):Lib.hasPrefix (c :: r) [239,191,189]=true:=by
 have hc:=u8_lt c
 by_cases h1:c.toNat<128
 ·rw [next1 r h1] at h2;simp only [] at h2;omega
 ·by_cases h2':c.toNat<194∨244<c.toNat
  ·rw [next_bad r h1 h2'] at h;simp at h
  ·by_cases h3:c.toNat<224
   ·rw [next2 r (by omega) h3] at h h2
    match r with
    | []=>simp [next2P] at h
    | d :: r =>
      rw [next2P] at h h2
      have hd':=u8_lt d
      split at h2
      ·simp at h2
      ·simp only [] at h2;omega
   ·by_cases h5:c.toNat<240
    ·rw [next3 r h3 h5] at h h2
     match r with
     | []=>simp [next3P] at h
     | d :: r =>
       rw [next3P] at h h2
       by_cases hd:ok3 c d
       ·rw [if_pos hd] at h h2
        unfold ok3 at hd
        match r with
        | []=>simp [next3Q] at h
        | e :: r =>
          rw [next3Q] at h h2
          split at h2
          ·simp at h2
          ·simp only [] at h2
           have e1:c=239:=UInt8.toNat_inj.1 (by show c.toNat=239;omega)
           have e2:d=191:=UInt8.toNat_inj.1 (by show d.toNat=191;omega)
           have e3:e=189:=UInt8.toNat_inj.1 (by show e.toNat=189;omega)
           subst e1 e2 e3
           simp [Lib.hasPrefix,List.isPrefixOf]
       ·rw [if_neg hd] at h;simp at h
    ·rw [next4 r h5 (by omega)] at h h2
     match r with
     | []=>simp [next4P] at h
     | d :: r =>
       rw [next4P] at h h2
       by_cases hd:ok4 c d
       ·rw [if_pos hd] at h h2
        unfold ok4 at hd
        match r with
        | []=>simp [next4Q] at h
        | e :: r =>
          rw [next4Q] at h h2
          split at h2
          ·simp at h2
          ·rename_i he
           rw [if_neg he] at h
           match r with
           | []=>simp [next4R] at h
           | f :: r =>
             rw [next4R] at h h2
             split at h2
             ·simp at h2
             ·simp only [] at h2;omega
       ·rw [if_neg hd] at h;simp at h
theorem bad_iff (s:ByteArray) (pos:Nat) (h:pos<s.size):badAt s pos=decide ((nextP (s.data.toList.drop pos)).2.2≠0)∧((nextP (s.data.toList.drop pos)).2.2=0→((Utf8.decode s pos).2:Int)=(nextP (s.data.toList.drop pos)).2.1):=by
 unfold badAt
 rw [← Lib.decodeL_drop]
 match hl:s.data.toList.drop pos with
 | [] =>
   have:=congrArg List.length hl
   rw [List.length_drop,size_len] at this
   simp at this
   omega
 | c :: r =>
   rcases dec_is c r with ⟨h1,h2,h3⟩ | ⟨h1,h2⟩
   ·refine ⟨?_,fun _=>h3⟩
    rw [decide_eq_false (p:=(nextP (c :: r)).2.2≠0) (by simpa using h1)]
    by_cases hv:(decodeL (c :: r)).1=65533
    ·rw [fffd_next c r h1 (by rw [← h2,hv];rfl)];simp
    ·rw [decide_eq_false hv];rfl
   ·refine ⟨?_,fun h=>absurd h h1⟩
    rw [decide_eq_true h1,h2]
    cases hp:Lib.hasPrefix (c :: r) [239,191,189] with
    | false=>rfl
    | true =>
      rw [next_fffd hp] at h1
      simp at h1
def lenGo (l:List UInt8):Nat→Bool
 | 0=>true
 | f+1=>if l=[] then true else if (nextP l).2.2=0 then lenGo (l.drop (nextP l).2.1.toNat) f else false
theorem utfGo_len (s:ByteArray):∀ (f pos:Nat),utfGo s f pos=lenGo (s.data.toList.drop pos) f
 | 0,_=>rfl
 | f+1,pos=>by
   rw [utfGo,lenGo]
   by_cases hp:pos<s.size
   ·have hne:s.data.toList.drop pos≠[]:=by
     intro e
     have:=congrArg List.length e
     rw [List.length_drop,size_len] at this
     simp at this
     omega
    rw [if_pos hp,if_neg hne]
    obtain ⟨h1,h2⟩:=bad_iff s pos hp
    rw [h1]
    by_cases he:(nextP (s.data.toList.drop pos)).2.2=0
    ·rw [if_neg (by simp [he]),if_pos he,utfGo_len s f,List.drop_drop]
     have:=h2 he
     rw [show (nextP (s.data.toList.drop pos)).2.1.toNat=(Utf8.decode s pos).2 by omega]
    ·rw [if_pos (by simp [he]),if_neg he]
   ·rw [if_neg hp,if_pos (List.drop_of_length_le (by rw [size_len];omega))]
theorem utfOK_len (s:ByteArray):utfOK s=lenGo s.data.toList s.size:=by rw [utfOK,utfGo_len,List.drop_zero]
end
section
open Go.RowKit
theorem byte_bd (l:List UInt8) (i:Nat):0≤byteAt l i∧byteAt l i≤255:=by
 unfold byteAt
 have:=u8_lt (l.getD i 0)
 omega
theorem lo_bd (l:List UInt8) (base:Int) (h0:0≤base) (h1:base≤255) (k:Nat) (hk:k≤3):-100000000≤lo l base k∧lo l base k≤100000000:=by
 have b0:=byte_bd l 0
 have b1:=byte_bd l (0+1)
 have b2:=byte_bd l (1+1)
 have b3:=byte_bd l (2+1)
 match k,hk with
 | 0,_=>simp only [lo];omega
 | 1,_=>simp only [lo];split <;> omega
 | 2,_=>simp only [lo];split <;> split <;> omega
 | 3,_=>simp only [lo];split <;> split <;> split <;> omega
theorem hi_bd (l:List UInt8) (base:Int) (h0:0≤base) (h1:base≤255) (k:Nat) (hk:k≤3):-100000000≤hi l base k∧hi l base k≤100000000:=by
 have b0:=byte_bd l 0
 have b1:=byte_bd l (0+1)
 have b2:=byte_bd l (1+1)
 have b3:=byte_bd l (2+1)
 match k,hk with
 | 0,_=>simp only [hi];omega
 | 1,_=>simp only [hi];split <;> omega
 | 2,_=>simp only [hi];split <;> split <;> omega
 | 3,_=>simp only [hi];split <;> split <;> split <;> omega
theorem byte_get (t:ByteArray) (i:Nat) (h:i<t.size):byteAt t.data.toList i=(t[i].toNat:Int):=by
 unfold byteAt
 rw [List.getD_eq_getElem?_getD,Lib.data_getElem? t i h]
 rfl
theorem contTo_step (l:List UInt8) (k:Nat):contTo l (k+1)=(contTo l k && (decide (128≤byteAt l (k+1)) && decide (byteAt l (k+1)≤191))):=by
 unfold contTo
 rw [List.range_succ,List.all_append]
 simp
theorem contTo_no {l:List UInt8} {k m:Nat} (hk:k<m) (h:byteAt l (k+1)<128∨191<byteAt l (k+1)):contTo l m=false:=by
 unfold contTo
 rw [List.all_eq_false]
 refine ⟨k,List.mem_range.2 hk,?_⟩
 simp only [Bool.and_eq_true,decide_eq_true_eq]
 omega
theorem beg_no {l:List UInt8} {size k:Nat} (hk:k+1<l.length) (hk2:k+1<size) (h:byteAt l (k+1)<128∨191<byteAt l (k+1)):beginsB l size=false:=by
 unfold beginsB
 rw [contTo_no (k:=k) (by omega) h];rfl
theorem begins_2 (t:ByteArray) (w:World) (h1:1≤t.size) (h2:t.size≤2) (r:Bool) (hr:Hid (beginsB t.data.toList 2=r)) :
 Calls Tryz.prog 135 #[.string t,.int .i64 2] w fun e w'=>e=.returned (.bool r)∧Below w.heap.size w w':=by
 have ht0:0<t.size:=h1
 have hb0:0≤(t[0].toNat:Int):=by omega
 have hb1:(t[0].toNat:Int)≤255:=by have:=u8_lt t[0];omega
 have hl0:=Lib.hid (byte_get t 0 ht0)
 obtain ⟨l,hl⟩:∃ l,Hid (t.data.toList=l):=⟨_,rfl⟩
 rw [hl.out] at hr hl0
 have hlen:Hid (l.length=t.size):=by rw [← hl.out];exact size_len t
 go_enter Tryz.func135,Tryz.ntmps135
 go_wp2_with fail
 go_quiet (fail)
 go_wp2_with fail
 go_loopw [5,6,7] (fun lw hg i wr=>∃ (k:Nat) (L H:Int),k≤1∧i=.int .i64 ((k:Int)+1)∧lw=.int .i64 L∧hg=.int .i64 H∧Hid (lo l 192 k=L∧hi l 192 k=H∧contTo l (min (t.size - 1) k)=true)∧∃ nq,wr=w.drewN nq) (fun _ _ i _=>2 - (intOf i).toNat)
 case atStart=>exact ⟨0,_,_,by omega,rfl,rfl,rfl,⟨by rw [lo,hl0.out],by rw [hi,hl0.out],by simp [contTo]⟩,_,rfl⟩
 case round =>
  obtain ⟨k,L,H,hk,rfl,rfl,rfl,HR,nq',rfl⟩:=hrel
  have hLb:=lo_bd l 192 (by omega) (by omega) k (by omega)
  have hHb:=hi_bd l 192 (by omega) (by omega) k (by omega)
  rw [HR.out.1] at hLb
  rw [HR.out.2.1] at hHb
  obtain ⟨L0,L1⟩:=hLb
  obtain ⟨H0,H1⟩:=hHb
  by_cases hks:k+1<2
  ·by_cases hn:k+1<t.size
   ·have hg:=Lib.hid (byte_get t (k+1) hn)
    rw [hl.out] at hg
    have hg0:0≤(t[k+1].toNat:Int):=by omega
    have hg1:(t[k+1].toNat:Int)≤255:=by have:=u8_lt t[k+1];omega
    have k0:0≤(k:Int)+1:=by omega
    have k1:(k:Int)+1<(t.size:Int):=by omega
    have k2:((k:Int)+1).toNat=k+1:=by omega
    by_cases hc1:(t[k+1].toNat:Int)<128
    ·obtain rfl:r=false:=by rw [← hr.out];exact beg_no (k:=k) (by rw [hlen.out];omega) (by omega) (by rw [hg.out];omega)
     go_wp2_with fail
     go_ret
     exact ⟨rfl,bel_drewN (Below.refl _ _) _⟩
    ·by_cases hc2:191<(t[k+1].toNat:Int)
     ·obtain rfl:r=false:=by rw [← hr.out];exact beg_no (k:=k) (by rw [hlen.out];omega) (by omega) (by rw [hg.out];omega)
      go_wp2_with fail
      go_ret
      exact ⟨rfl,bel_drewN (Below.refl _ _) _⟩
     ·have e1:IntKind.i64.wrap (64*L)=64*L:=IntWalk.i64_in _ (by omega)
      have e2:IntKind.i64.wrap (64*H)=64*H:=IntWalk.i64_in _ (by omega)
      have e3:IntKind.u8.wrap ((t[k+1].toNat:Int) - 128)=(t[k+1].toNat:Int) - 128:=IntWalk.u8_in _ (by omega)
      have e4:IntKind.i64.wrap ((t[k+1].toNat:Int) - 128)=(t[k+1].toNat:Int) - 128:=IntWalk.i64_in _ (by omega)
      have e5:IntKind.i64.wrap (64*L+((t[k+1].toNat:Int) - 128))=64*L+((t[k+1].toNat:Int) - 128):=IntWalk.i64_in _ (by omega)
      have e6:IntKind.i64.wrap (64*H+((t[k+1].toNat:Int) - 128))=64*H+((t[k+1].toNat:Int) - 128):=IntWalk.i64_in _ (by omega)
      go_wp2_with fail
      go_quiet (fail)
      clear e1 e2 e3 e4 e5 e6
      go_wp2_with fail
      refine ⟨⟨k+1,_,_,by omega,by go_num,rfl,rfl,⟨?_,?_,?_⟩,_,rfl⟩,by simp [intOf];omega⟩
      ·rw [lo,HR.out.1,if_pos (by rw [hlen.out];exact hn),hg.out]
      ·rw [hi,HR.out.2.1,if_pos (by rw [hlen.out];exact hn),hg.out]
      ·rw [show min (t.size - 1) (k+1)=k+1 by omega,contTo_step]
       have:=HR.out.2.2
       rw [show min (t.size - 1) k=k by omega] at this
       rw [this,hg.out,decide_eq_true (by omega),decide_eq_true (by omega)];rfl
   ·have hni:¬ ((k:Int)+1<(t.size:Int)):=by omega
    go_wp2_with fail
    refine ⟨⟨k+1,_,_,by omega,by go_num,rfl,rfl,⟨?_,?_,?_⟩,_,rfl⟩,by simp [intOf];omega⟩
    ·rw [lo,HR.out.1,if_neg (by rw [hlen.out];exact hn)];omega
    ·rw [hi,HR.out.2.1,if_neg (by rw [hlen.out];exact hn)]
    ·have:=HR.out.2.2
     rw [show min (t.size - 1) k=min (t.size - 1) (k+1) by omega] at this
     exact this
  ·obtain rfl:k=1:=by omega
   have hrr:r=(!(decide (55296≤max L 128) && decide (min H 1114111≤57343)) && decide (max L 128≤min H 1114111)):=by
    rw [← hr.out,beginsB,show min (l.length - 1) (2 - 1)=min (t.size - 1) 1 by rw [hlen.out],HR.out.2.2]
    show (true && (!(decide (55296≤max (lo l 192 1) 128) && decide (min (hi l 192 1) 1114111≤57343)) && decide (max (lo l 192 1) 128≤min (hi l 192 1) 1114111)))=_
    rw [HR.out.1,HR.out.2.1];rfl
   have HRR:=Lib.hid hrr
   clear hrr HR hr
   have hcell:((w.drewN nq').alloc (.cells #[.int .i64 0,.int .i64 0,.int .i64 128,.int .i64 2048,.int .i64 65536] 3)).cell? ⟨w.heap.size,2,none⟩=some (.int .i64 128):=(cell_al_eq (w.drewN nq') _ _ w.heap.size 2 rfl).trans rfl
   go_wp2_with fail
   all_goals
    go_ret
    refine ⟨ret_bool ?_,bel_alloc (bel_drewN (Below.refl _ _) _) _⟩
    rw [HRR.out]
    first | (rw [decide_eq_true (p:=55296≤max L 128) (by assumption),decide_eq_true (p:=min H 1114111≤57343) (by assumption)];rfl) | (rw [decide_eq_false (p:=min H 1114111≤57343) (by omega),Bool.and_false];rfl) | (rw [decide_eq_false (p:=55296≤max L 128) (by omega)];rfl)
theorem begins_3 (t:ByteArray) (w:World) (h1:1≤t.size) (h2:t.size≤3) (r:Bool) (hr:Hid (beginsB t.data.toList 3=r)) :
 Calls Tryz.prog 135 #[.string t,.int .i64 3] w fun e w'=>e=.returned (.bool r)∧Below w.heap.size w w':=by
 have ht0:0<t.size:=h1
 have hb0:0≤(t[0].toNat:Int):=by omega
 have hb1:(t[0].toNat:Int)≤255:=by have:=u8_lt t[0];omega
 have hl0:=Lib.hid (byte_get t 0 ht0)
 obtain ⟨l,hl⟩:∃ l,Hid (t.data.toList=l):=⟨_,rfl⟩
 rw [hl.out] at hr hl0
 have hlen:Hid (l.length=t.size):=by rw [← hl.out];exact size_len t
 go_enter Tryz.func135,Tryz.ntmps135
 go_wp2_with fail
 go_quiet (fail)
 go_wp2_with fail
 go_loopw [5,6,7] (fun lw hg i wr=>∃ (k:Nat) (L H:Int),k≤2∧i=.int .i64 ((k:Int)+1)∧lw=.int .i64 L∧hg=.int .i64 H∧Hid (lo l 224 k=L∧hi l 224 k=H∧contTo l (min (t.size - 1) k)=true)∧∃ nq,wr=w.drewN nq) (fun _ _ i _=>3 - (intOf i).toNat)
 case atStart=>exact ⟨0,_,_,by omega,rfl,rfl,rfl,⟨by rw [lo,hl0.out],by rw [hi,hl0.out],by simp [contTo]⟩,_,rfl⟩
 case round =>
  obtain ⟨k,L,H,hk,rfl,rfl,rfl,HR,nq',rfl⟩:=hrel
  have hLb:=lo_bd l 224 (by omega) (by omega) k (by omega)
  have hHb:=hi_bd l 224 (by omega) (by omega) k (by omega)
  rw [HR.out.1] at hLb
  rw [HR.out.2.1] at hHb
  obtain ⟨L0,L1⟩:=hLb
  obtain ⟨H0,H1⟩:=hHb
  by_cases hks:k+1<3
  ·by_cases hn:k+1<t.size
   ·have hg:=Lib.hid (byte_get t (k+1) hn)
    rw [hl.out] at hg
    have hg0:0≤(t[k+1].toNat:Int):=by omega
    have hg1:(t[k+1].toNat:Int)≤255:=by have:=u8_lt t[k+1];omega
    have k0:0≤(k:Int)+1:=by omega
    have k1:(k:Int)+1<(t.size:Int):=by omega
    have k2:((k:Int)+1).toNat=k+1:=by omega
    by_cases hc1:(t[k+1].toNat:Int)<128
    ·obtain rfl:r=false:=by rw [← hr.out];exact beg_no (k:=k) (by rw [hlen.out];omega) (by omega) (by rw [hg.out];omega)
     go_wp2_with fail
     go_ret
     exact ⟨rfl,bel_drewN (Below.refl _ _) _⟩
    ·by_cases hc2:191<(t[k+1].toNat:Int)
     ·obtain rfl:r=false:=by rw [← hr.out];exact beg_no (k:=k) (by rw [hlen.out];omega) (by omega) (by rw [hg.out];omega)
      go_wp2_with fail
      go_ret
      exact ⟨rfl,bel_drewN (Below.refl _ _) _⟩
     ·have e1:IntKind.i64.wrap (64*L)=64*L:=IntWalk.i64_in _ (by omega)
      have e2:IntKind.i64.wrap (64*H)=64*H:=IntWalk.i64_in _ (by omega)
      have e3:IntKind.u8.wrap ((t[k+1].toNat:Int) - 128)=(t[k+1].toNat:Int) - 128:=IntWalk.u8_in _ (by omega)
      have e4:IntKind.i64.wrap ((t[k+1].toNat:Int) - 128)=(t[k+1].toNat:Int) - 128:=IntWalk.i64_in _ (by omega)
      have e5:IntKind.i64.wrap (64*L+((t[k+1].toNat:Int) - 128))=64*L+((t[k+1].toNat:Int) - 128):=IntWalk.i64_in _ (by omega)
      have e6:IntKind.i64.wrap (64*H+((t[k+1].toNat:Int) - 128))=64*H+((t[k+1].toNat:Int) - 128):=IntWalk.i64_in _ (by omega)
      go_wp2_with fail
      go_quiet (fail)
      clear e1 e2 e3 e4 e5 e6
      go_wp2_with fail
      refine ⟨⟨k+1,_,_,by omega,by go_num,rfl,rfl,⟨?_,?_,?_⟩,_,rfl⟩,by simp [intOf];omega⟩
      ·rw [lo,HR.out.1,if_pos (by rw [hlen.out];exact hn),hg.out]
      ·rw [hi,HR.out.2.1,if_pos (by rw [hlen.out];exact hn),hg.out]
      ·rw [show min (t.size - 1) (k+1)=k+1 by omega,contTo_step]
       have:=HR.out.2.2
       rw [show min (t.size - 1) k=k by omega] at this
       rw [this,hg.out,decide_eq_true (by omega),decide_eq_true (by omega)];rfl
   ·have hni:¬ ((k:Int)+1<(t.size:Int)):=by omega
    go_wp2_with fail
    refine ⟨⟨k+1,_,_,by omega,by go_num,rfl,rfl,⟨?_,?_,?_⟩,_,rfl⟩,by simp [intOf];omega⟩
    ·rw [lo,HR.out.1,if_neg (by rw [hlen.out];exact hn)];omega
    ·rw [hi,HR.out.2.1,if_neg (by rw [hlen.out];exact hn)]
    ·have:=HR.out.2.2
     rw [show min (t.size - 1) k=min (t.size - 1) (k+1) by omega] at this
     exact this
  ·obtain rfl:k=2:=by omega
   have hrr:r=(!(decide (55296≤max L 2048) && decide (min H 1114111≤57343)) && decide (max L 2048≤min H 1114111)):=by
    rw [← hr.out,beginsB,show min (l.length - 1) (3 - 1)=min (t.size - 1) 2 by rw [hlen.out],HR.out.2.2]
    show (true && (!(decide (55296≤max (lo l 224 2) 2048) && decide (min (hi l 224 2) 1114111≤57343)) && decide (max (lo l 224 2) 2048≤min (hi l 224 2) 1114111)))=_
    rw [HR.out.1,HR.out.2.1];rfl
   have HRR:=Lib.hid hrr
   clear hrr HR hr
   have hcell:((w.drewN nq').alloc (.cells #[.int .i64 0,.int .i64 0,.int .i64 128,.int .i64 2048,.int .i64 65536] 3)).cell? ⟨w.heap.size,3,none⟩=some (.int .i64 2048):=(cell_al_eq (w.drewN nq') _ _ w.heap.size 3 rfl).trans rfl
   go_wp2_with fail
   all_goals
    go_ret
    refine ⟨ret_bool ?_,bel_alloc (bel_drewN (Below.refl _ _) _) _⟩
    rw [HRR.out]
    first | (rw [decide_eq_true (p:=55296≤max L 2048) (by assumption),decide_eq_true (p:=min H 1114111≤57343) (by assumption)];rfl) | (rw [decide_eq_false (p:=min H 1114111≤57343) (by omega),Bool.and_false];rfl) | (rw [decide_eq_false (p:=55296≤max L 2048) (by omega)];rfl)
theorem begins_4 (t:ByteArray) (w:World) (h1:1≤t.size) (h2:t.size≤4) (r:Bool) (hr:Hid (beginsB t.data.toList 4=r)) :
 Calls Tryz.prog 135 #[.string t,.int .i64 4] w fun e w'=>e=.returned (.bool r)∧Below w.heap.size w w':=by
 have ht0:0<t.size:=h1
 have hb0:0≤(t[0].toNat:Int):=by omega
 have hb1:(t[0].toNat:Int)≤255:=by have:=u8_lt t[0];omega
 have hl0:=Lib.hid (byte_get t 0 ht0)
 obtain ⟨l,hl⟩:∃ l,Hid (t.data.toList=l):=⟨_,rfl⟩
 rw [hl.out] at hr hl0
 have hlen:Hid (l.length=t.size):=by rw [← hl.out];exact size_len t
 go_enter Tryz.func135,Tryz.ntmps135
 go_wp2_with fail
 go_quiet (fail)
 go_wp2_with fail
 go_loopw [5,6,7] (fun lw hg i wr=>∃ (k:Nat) (L H:Int),k≤3∧i=.int .i64 ((k:Int)+1)∧lw=.int .i64 L∧hg=.int .i64 H∧Hid (lo l 240 k=L∧hi l 240 k=H∧contTo l (min (t.size - 1) k)=true)∧∃ nq,wr=w.drewN nq) (fun _ _ i _=>4 - (intOf i).toNat)
 case atStart=>exact ⟨0,_,_,by omega,rfl,rfl,rfl,⟨by rw [lo,hl0.out],by rw [hi,hl0.out],by simp [contTo]⟩,_,rfl⟩
 case round =>
  obtain ⟨k,L,H,hk,rfl,rfl,rfl,HR,nq',rfl⟩:=hrel
  have hLb:=lo_bd l 240 (by omega) (by omega) k (by omega)
  have hHb:=hi_bd l 240 (by omega) (by omega) k (by omega)
  rw [HR.out.1] at hLb
  rw [HR.out.2.1] at hHb
  obtain ⟨L0,L1⟩:=hLb
  obtain ⟨H0,H1⟩:=hHb
  by_cases hks:k+1<4
  ·by_cases hn:k+1<t.size
   ·have hg:=Lib.hid (byte_get t (k+1) hn)
    rw [hl.out] at hg
    have hg0:0≤(t[k+1].toNat:Int):=by omega
    have hg1:(t[k+1].toNat:Int)≤255:=by have:=u8_lt t[k+1];omega
    have k0:0≤(k:Int)+1:=by omega
    have k1:(k:Int)+1<(t.size:Int):=by omega
    have k2:((k:Int)+1).toNat=k+1:=by omega
    by_cases hc1:(t[k+1].toNat:Int)<128
    ·obtain rfl:r=false:=by rw [← hr.out];exact beg_no (k:=k) (by rw [hlen.out];omega) (by omega) (by rw [hg.out];omega)
     go_wp2_with fail
     go_ret
     exact ⟨rfl,bel_drewN (Below.refl _ _) _⟩
    ·by_cases hc2:191<(t[k+1].toNat:Int)
     ·obtain rfl:r=false:=by rw [← hr.out];exact beg_no (k:=k) (by rw [hlen.out];omega) (by omega) (by rw [hg.out];omega)
      go_wp2_with fail
      go_ret
      exact ⟨rfl,bel_drewN (Below.refl _ _) _⟩
     ·have e1:IntKind.i64.wrap (64*L)=64*L:=IntWalk.i64_in _ (by omega)
      have e2:IntKind.i64.wrap (64*H)=64*H:=IntWalk.i64_in _ (by omega)
      have e3:IntKind.u8.wrap ((t[k+1].toNat:Int) - 128)=(t[k+1].toNat:Int) - 128:=IntWalk.u8_in _ (by omega)
      have e4:IntKind.i64.wrap ((t[k+1].toNat:Int) - 128)=(t[k+1].toNat:Int) - 128:=IntWalk.i64_in _ (by omega)
      have e5:IntKind.i64.wrap (64*L+((t[k+1].toNat:Int) - 128))=64*L+((t[k+1].toNat:Int) - 128):=IntWalk.i64_in _ (by omega)
      have e6:IntKind.i64.wrap (64*H+((t[k+1].toNat:Int) - 128))=64*H+((t[k+1].toNat:Int) - 128):=IntWalk.i64_in _ (by omega)
      go_wp2_with fail
      go_quiet (fail)
      clear e1 e2 e3 e4 e5 e6
      go_wp2_with fail
      refine ⟨⟨k+1,_,_,by omega,by go_num,rfl,rfl,⟨?_,?_,?_⟩,_,rfl⟩,by simp [intOf];omega⟩
      ·rw [lo,HR.out.1,if_pos (by rw [hlen.out];exact hn),hg.out]
      ·rw [hi,HR.out.2.1,if_pos (by rw [hlen.out];exact hn),hg.out]
      ·rw [show min (t.size - 1) (k+1)=k+1 by omega,contTo_step]
       have:=HR.out.2.2
       rw [show min (t.size - 1) k=k by omega] at this
       rw [this,hg.out,decide_eq_true (by omega),decide_eq_true (by omega)];rfl
   ·have hni:¬ ((k:Int)+1<(t.size:Int)):=by omega
    go_wp2_with fail
    refine ⟨⟨k+1,_,_,by omega,by go_num,rfl,rfl,⟨?_,?_,?_⟩,_,rfl⟩,by simp [intOf];omega⟩
    ·rw [lo,HR.out.1,if_neg (by rw [hlen.out];exact hn)];omega
    ·rw [hi,HR.out.2.1,if_neg (by rw [hlen.out];exact hn)]
    ·have:=HR.out.2.2
     rw [show min (t.size - 1) k=min (t.size - 1) (k+1) by omega] at this
     exact this
  ·obtain rfl:k=3:=by omega
   have hrr:r=(!(decide (55296≤max L 65536) && decide (min H 1114111≤57343)) && decide (max L 65536≤min H 1114111)):=by
    rw [← hr.out,beginsB,show min (l.length - 1) (4 - 1)=min (t.size - 1) 3 by rw [hlen.out],HR.out.2.2]
    show (true && (!(decide (55296≤max (lo l 240 3) 65536) && decide (min (hi l 240 3) 1114111≤57343)) && decide (max (lo l 240 3) 65536≤min (hi l 240 3) 1114111)))=_
    rw [HR.out.1,HR.out.2.1];rfl
   have HRR:=Lib.hid hrr
   clear hrr HR hr
   have hcell:((w.drewN nq').alloc (.cells #[.int .i64 0,.int .i64 0,.int .i64 128,.int .i64 2048,.int .i64 65536] 3)).cell? ⟨w.heap.size,4,none⟩=some (.int .i64 65536):=(cell_al_eq (w.drewN nq') _ _ w.heap.size 4 rfl).trans rfl
   go_wp2_with fail
   all_goals
    go_ret
    refine ⟨ret_bool ?_,bel_alloc (bel_drewN (Below.refl _ _) _) _⟩
    rw [HRR.out]
    first | (rw [decide_eq_true (p:=55296≤max L 65536) (by assumption),decide_eq_true (p:=min H 1114111≤57343) (by assumption)];rfl) | (rw [decide_eq_false (p:=min H 1114111≤57343) (by omega),Bool.and_false];rfl) | (rw [decide_eq_false (p:=55296≤max L 65536) (by omega)];rfl)
theorem wrong_ok {l:List UInt8} {size:Nat}:∀ {f n:Nat},wrongFrom l size f n=0→∀ k,n≤k→k<n+f→k≤l.length∧beginsB (l.take k) size=true
 | 0,n,_,k,h1,h2=>by omega
 | f+1,n,h,k,h1,h2=>by
   rw [wrong_step] at h
   by_cases hl:l.length<n
   ·rw [if_pos hl] at h;exact absurd h (by decide)
   ·rw [if_neg hl] at h
    by_cases hb:beginsB (l.take n) size=false
    ·rw [if_pos hb] at h;exact absurd h (by decide)
    ·rw [if_neg hb] at h
     by_cases e:k=n
     ·subst e;exact ⟨by omega,by simpa using hb⟩
     ·exact wrong_ok h k (by omega) (by omega)
theorem byteAt_take {l:List UInt8} {n i:Nat} (h:i<n):byteAt (l.take n) i=byteAt l i:=by
 unfold byteAt
 rw [List.getD_eq_getElem?_getD,List.getD_eq_getElem?_getD,List.getElem?_take,if_pos h]
theorem cont_of {l:List UInt8} {size:Nat} (h:beginsB (l.take size) size=true) (hl:size≤l.length) {i:Nat} (hi:i+1<size):128≤byteAt l (i+1)∧byteAt l (i+1)≤191:=by
 have h1:=((beg_iff _ _).1 h).1
 rw [List.length_take,Nat.min_eq_left hl,Nat.min_self] at h1
 unfold contTo at h1
 have:=List.all_eq_true.1 h1 i (List.mem_range.2 (by omega))
 rw [byteAt_take hi] at this
 simpa using this
theorem ret3i {a a' b b' c c':Int} (h1:a=a') (h2:b=b') (h3:c=c'):Ending.returned (.tuple #[.int .i64 a,.int .i64 b,.int .i64 c])=.returned (.tuple #[.int .i64 a',.int .i64 b',.int .i64 c']):=by rw [h1,h2,h3]
theorem byte_drop (s:ByteArray) (a i:Nat) (h:a+i<s.size):byteAt (s.data.toList.drop a) i=(s[a+i].toNat:Int):=by
 rw [← byte_get s (a+i) h]
 unfold byteAt
 rw [List.getD_eq_getElem?_getD,List.getD_eq_getElem?_getD,List.getElem?_drop]
theorem refNext_2 (s:ByteArray) (a:Nat) (w:World) (hs:s.size≤281474976710656) (ha:a<s.size) (hlo:192≤(s[a].toNat:Int)) (hhi:(s[a].toNat:Int)≤223) (r1 r2 r3:Int) (hr:Hid (nextP (s.data.toList.drop a)=(r1,r2,r3))) :
 Calls Tryz.prog 123 #[.string s,.int .i64 a] w fun e w'=>e=.returned (.tuple #[.int .i64 r1,.int .i64 r2,.int .i64 r3])∧Below w.heap.size w w':=by
 obtain ⟨l,hl⟩:∃ l,Hid (s.data.toList.drop a=l):=⟨_,rfl⟩
 have hlen:Hid (l.length=s.size - a):=by rw [← hl.out,List.length_drop];show s.data.toList.length - a=_;rw [size_len]
 have hbyte:Hid (∀ i,a+i<s.size→∃ h:a+i<s.size,byteAt l i=(s[a+i].toNat:Int)):=fun i h=>⟨h,by rw [← hl.out];exact byte_drop s a i h⟩
 rw [hl.out,← refNext_eq] at hr
 have hcons:∃ c t,l=c :: t∧(c.toNat:Int)=(s[a].toNat:Int):=by
  match l,hlen,hbyte with
  | [],hlen,_=>have:=hlen.out;simp at this;omega
  | c :: t,_,hbyte =>
    obtain ⟨_,h0⟩:=hbyte.out 0 (by omega)
    exact ⟨c,t,rfl,by simpa [byteAt] using h0⟩
 obtain ⟨W,hW⟩:∃ W,wrongFrom l 2 2 1=W:=⟨_,rfl⟩
 have hres:(W=0∧r1=lo l 192 1∧r2=2∧r3=0)∨(W≠0∧r1=0∧r2=0∧r3=W):=by
  obtain ⟨c,t,rfl,hc⟩:=hcons
  have e:=hr.out
  have hsz:sizeOf8 c.toNat=2:=by unfold sizeOf8;rw [if_pos (by omega)]
  rw [refNextP,if_neg (by omega),if_neg (by omega),hsz,hW] at e
  by_cases h0:W=0
  ·rw [if_pos h0] at e
   simp only [Prod.mk.injEq] at e
   exact Or.inl ⟨h0,e.1.symm,e.2.1.symm,e.2.2.symm⟩
  ·rw [if_neg h0] at e
   simp only [Prod.mk.injEq] at e
   exact Or.inr ⟨h0,e.1.symm,e.2.1.symm,e.2.2.symm⟩
 have HRES:=Lib.hid hres
 have HW:=Lib.hid hW
 have hai:(a:Int)<(s.size:Int):=by omega
 have hane:((a:Int) == (s.size:Int))=false:=beq_eq_false_iff_ne.2 (by omega)
 have d1:decide ((a:Int)<0)=false:=decide_eq_false (by omega)
 have d7:decide (s.size<a)=false:=decide_eq_false (by omega)
 have d2:decide ((s[a].toNat:Int)<128)=false:=decide_eq_false (by omega)
 have d3:decide ((s[a].toNat:Int)<192)=false:=decide_eq_false (by omega)
 have d4:decide (247<(s[a].toNat:Int))=false:=decide_eq_false (by omega)
 have d5:decide ((s[a].toNat:Int)<224)=true:=decide_eq_true (by omega)
 clear hres hr hcons hW
 go_enter Tryz.func123,Tryz.ntmps123
 go_wp2_with fail
 go_loopw [9] (fun i wr=>∃ k:Nat,1≤k∧k≤3∧i=.int .i64 k∧Hid (wrongFrom l 2 (3 - k) k=W∧k≤l.length+1)∧Below w.heap.size w wr) (fun i _=>3 - (intOf i).toNat)
 case atStart=>exact ⟨1,by omega,by omega,rfl,⟨HW.out,by omega⟩,Below.refl _ _⟩
 case round =>
  obtain ⟨k,hk1,hk2,rfl,HR,hB⟩:=hrel
  by_cases hkn:k≤2
  ·have hst:wrongFrom l 2 (3 - k) k=if l.length<k then 4 else if beginsB (l.take k) 2=false then 12 else wrongFrom l 2 (3 - (k+1)) (k+1):=by
    rw [show 3 - k=(3 - (k+1))+1 by omega,wrong_step]
   rw [HR.out.1] at hst
   have HST:=Lib.hid hst
   clear hst
   by_cases hlk:s.size<a+k
   ·have hw4:W=4:=by rw [HST.out,if_pos (by rw [hlen.out];omega)]
    have he:r1=0∧r2=0∧r3=4:=by
     rcases HRES.out with ⟨h,_⟩ | ⟨_,h1,h2,h3⟩
     ·rw [hw4] at h;exact absurd h (by decide)
     ·exact ⟨h1,h2,by rw [h3,hw4]⟩
    obtain ⟨rfl,rfl,rfl⟩:=he
    have hlki:(s.size:Int)<(a:Int)+(k:Int):=by omega
    clear hw4
    go_wp2_with fail
    go_ret3
    exact ⟨rfl,hB⟩
   ·have hex:(s.extract a (a+k)).data.toList=l.take k:=by
     rw [Lib.extract_data,hl.out,show a+k - a=k by omega]
    have hexs:(s.extract a (a+k)).size=k:=by
     rw [← size_len,hex,List.length_take,hlen.out];omega
    obtain ⟨b,hb⟩:∃ b,Hid (beginsB (s.extract a (a+k)).data.toList 2=b):=⟨_,rfl⟩
    have hcall:=fun W'=>begins_2 (s.extract a (a+k)) W' (by rw [hexs];exact hk1) (by rw [hexs];exact hkn) b hb
    rw [hex] at hb
    have HC:=Lib.hid hcall
    have hlki:¬ ((s.size:Int)<(a:Int)+(k:Int)):=by omega
    have hlki2:(a:Int)+(k:Int)≤(s.size:Int):=by omega
    have hak:((a:Int)+(k:Int)).toNat=a+k:=by omega
    clear hex hexs hcall
    go_wp2_with fail
    refine (HC.out _).mono ?_
    rintro e w2 ⟨rfl,hb2⟩
    cases b with
    | true =>
      go_wp2_with fail
      refine ⟨⟨k+1,by omega,by omega,by go_num,⟨?_,?_⟩,below_more hB hb2⟩,by simp [intOf];omega⟩
      ·have:=HST.out
       rw [if_neg (by rw [hlen.out];omega),hb.out,if_neg (by simp)] at this
       exact this.symm
      ·rw [hlen.out];omega
    | false =>
      have hw4:W=12:=by rw [HST.out,if_neg (by rw [hlen.out];omega),hb.out,if_pos rfl]
      have he:r1=0∧r2=0∧r3=12:=by
       rcases HRES.out with ⟨h,_⟩ | ⟨_,h1,h2,h3⟩
       ·rw [hw4] at h;exact absurd h (by decide)
       ·exact ⟨h1,h2,by rw [h3,hw4]⟩
      obtain ⟨rfl,rfl,rfl⟩:=he
      clear hw4
      go_wp2_with fail
      go_ret3
      exact ⟨rfl,below_more hB hb2⟩
  ·obtain rfl:k=3:=by omega
   have hW0:W=0:=by rw [← HR.out.1];rfl
   have he:r1=lo l 192 1∧r2=2∧r3=0:=by
    rcases HRES.out with ⟨_,h1,h2,h3⟩ | ⟨h,_⟩
    ·exact ⟨h1,h2,h3⟩
    ·exact absurd hW0 h
   have hwk:=wrong_ok (HW.out.trans hW0) 2 (by omega) (by omega)
   have hll:a+2≤s.size:=by have:=hwk.1;rw [hlen.out] at this;omega
   have hct:Hid (∀ i,i+1<2→128≤byteAt l (i+1)∧byteAt l (i+1)≤191):=fun i hi=>cont_of hwk.2 hwk.1 hi
   obtain ⟨rfl,rfl⟩:=he.2
   have HE:=Lib.hid he.1
   clear he hwk hW0 HRES HW HR
   have hs2:=hB.size
   have hcell:(wr.alloc (.cells #[.int .i64 0,.int .i64 0,.int .i64 192,.int .i64 224,.int .i64 240] 3)).cell? ⟨wr.heap.size,2,none⟩=some (.int .i64 192):=(cell_al_eq wr _ _ wr.heap.size 2 rfl).trans rfl
   go_wp2_with fail
   go_loop [10,11] (fun r i=>∃ (k:Nat) (R:Int),k≤1∧i=.int .i64 ((k:Int)+1)∧r=.int .i64 R∧Hid (lo l 192 k=R)) (fun _ i=>2 - (intOf i).toNat)
   case atStart =>
    refine ⟨0,_,by omega,rfl,rfl,?_⟩
    obtain ⟨_,h0⟩:=hbyte.out 0 (by omega)
    show lo l 192 0=_
    rw [lo,h0];rfl
   case round =>
    obtain ⟨k,R,hk,rfl,rfl,HR⟩:=hrel
    have hLb:=lo_bd l 192 (by omega) (by omega) k (by omega)
    rw [HR.out] at hLb
    obtain ⟨L0,L1⟩:=hLb
    by_cases hks:k+1<2
    ·obtain ⟨hin,hg⟩:=hbyte.out (k+1) (by omega)
     have hgc:=hct.out k hks
     rw [hg] at hgc
     obtain ⟨g1,g2⟩:=hgc
     have HG:=Lib.hid hg
     clear hg
     have k2:((a:Int)+((k:Int)+1)).toNat=a+(k+1):=by omega
     have k3:(a:Int)+((k:Int)+1)<(s.size:Int):=by omega
     have k4:0≤(a:Int)+((k:Int)+1):=by omega
     go_wp2_with fail
     refine ⟨⟨k+1,_,by omega,by go_num,rfl,?_⟩,by simp [intOf];omega⟩
     show lo l 192 (k+1)=_
     rw [lo,HR.out,if_pos (by rw [hlen.out];omega),HG.out]
    ·obtain rfl:k=1:=by omega
     go_wp2_with fail
     go_ret3
     exact ⟨ret3i (HE.out.trans HR.out).symm rfl rfl,bel_alloc hB _⟩
theorem refNext_3 (s:ByteArray) (a:Nat) (w:World) (hs:s.size≤281474976710656) (ha:a<s.size) (hlo:224≤(s[a].toNat:Int)) (hhi:(s[a].toNat:Int)≤239) (r1 r2 r3:Int) (hr:Hid (nextP (s.data.toList.drop a)=(r1,r2,r3))) :
 Calls Tryz.prog 123 #[.string s,.int .i64 a] w fun e w'=>e=.returned (.tuple #[.int .i64 r1,.int .i64 r2,.int .i64 r3])∧Below w.heap.size w w':=by
 obtain ⟨l,hl⟩:∃ l,Hid (s.data.toList.drop a=l):=⟨_,rfl⟩
 have hlen:Hid (l.length=s.size - a):=by rw [← hl.out,List.length_drop];show s.data.toList.length - a=_;rw [size_len]
 have hbyte:Hid (∀ i,a+i<s.size→∃ h:a+i<s.size,byteAt l i=(s[a+i].toNat:Int)):=fun i h=>⟨h,by rw [← hl.out];exact byte_drop s a i h⟩
 rw [hl.out,← refNext_eq] at hr
 have hcons:∃ c t,l=c :: t∧(c.toNat:Int)=(s[a].toNat:Int):=by
  match l,hlen,hbyte with
  | [],hlen,_=>have:=hlen.out;simp at this;omega
  | c :: t,_,hbyte =>
    obtain ⟨_,h0⟩:=hbyte.out 0 (by omega)
    exact ⟨c,t,rfl,by simpa [byteAt] using h0⟩
 obtain ⟨W,hW⟩:∃ W,wrongFrom l 3 3 1=W:=⟨_,rfl⟩
 have hres:(W=0∧r1=lo l 224 2∧r2=3∧r3=0)∨(W≠0∧r1=0∧r2=0∧r3=W):=by
  obtain ⟨c,t,rfl,hc⟩:=hcons
  have e:=hr.out
  have hsz:sizeOf8 c.toNat=3:=by unfold sizeOf8;rw [if_neg (by omega),if_pos (by omega)]
  rw [refNextP,if_neg (by omega),if_neg (by omega),hsz,hW] at e
  by_cases h0:W=0
  ·rw [if_pos h0] at e
   simp only [Prod.mk.injEq] at e
   exact Or.inl ⟨h0,e.1.symm,e.2.1.symm,e.2.2.symm⟩
  ·rw [if_neg h0] at e
   simp only [Prod.mk.injEq] at e
   exact Or.inr ⟨h0,e.1.symm,e.2.1.symm,e.2.2.symm⟩
 have HRES:=Lib.hid hres
 have HW:=Lib.hid hW
 have hai:(a:Int)<(s.size:Int):=by omega
 have hane:((a:Int) == (s.size:Int))=false:=beq_eq_false_iff_ne.2 (by omega)
 have d1:decide ((a:Int)<0)=false:=decide_eq_false (by omega)
 have d7:decide (s.size<a)=false:=decide_eq_false (by omega)
 have d2:decide ((s[a].toNat:Int)<128)=false:=decide_eq_false (by omega)
 have d3:decide ((s[a].toNat:Int)<192)=false:=decide_eq_false (by omega)
 have d4:decide (247<(s[a].toNat:Int))=false:=decide_eq_false (by omega)
 have d5:decide ((s[a].toNat:Int)<224)=false:=decide_eq_false (by omega)
 have d6:decide ((s[a].toNat:Int)<240)=true:=decide_eq_true (by omega)
 clear hres hr hcons hW
 go_enter Tryz.func123,Tryz.ntmps123
 go_wp2_with fail
 go_loopw [9] (fun i wr=>∃ k:Nat,1≤k∧k≤4∧i=.int .i64 k∧Hid (wrongFrom l 3 (4 - k) k=W∧k≤l.length+1)∧Below w.heap.size w wr) (fun i _=>4 - (intOf i).toNat)
 case atStart=>exact ⟨1,by omega,by omega,rfl,⟨HW.out,by omega⟩,Below.refl _ _⟩
 case round =>
  obtain ⟨k,hk1,hk2,rfl,HR,hB⟩:=hrel
  by_cases hkn:k≤3
  ·have hst:wrongFrom l 3 (4 - k) k=if l.length<k then 4 else if beginsB (l.take k) 3=false then 12 else wrongFrom l 3 (4 - (k+1)) (k+1):=by
    rw [show 4 - k=(4 - (k+1))+1 by omega,wrong_step]
   rw [HR.out.1] at hst
   have HST:=Lib.hid hst
   clear hst
   by_cases hlk:s.size<a+k
   ·have hw4:W=4:=by rw [HST.out,if_pos (by rw [hlen.out];omega)]
    have he:r1=0∧r2=0∧r3=4:=by
     rcases HRES.out with ⟨h,_⟩ | ⟨_,h1,h2,h3⟩
     ·rw [hw4] at h;exact absurd h (by decide)
     ·exact ⟨h1,h2,by rw [h3,hw4]⟩
    obtain ⟨rfl,rfl,rfl⟩:=he
    have hlki:(s.size:Int)<(a:Int)+(k:Int):=by omega
    clear hw4
    go_wp2_with fail
    go_ret3
    exact ⟨rfl,hB⟩
   ·have hex:(s.extract a (a+k)).data.toList=l.take k:=by
     rw [Lib.extract_data,hl.out,show a+k - a=k by omega]
    have hexs:(s.extract a (a+k)).size=k:=by
     rw [← size_len,hex,List.length_take,hlen.out];omega
    obtain ⟨b,hb⟩:∃ b,Hid (beginsB (s.extract a (a+k)).data.toList 3=b):=⟨_,rfl⟩
    have hcall:=fun W'=>begins_3 (s.extract a (a+k)) W' (by rw [hexs];exact hk1) (by rw [hexs];exact hkn) b hb
    rw [hex] at hb
    have HC:=Lib.hid hcall
    have hlki:¬ ((s.size:Int)<(a:Int)+(k:Int)):=by omega
    have hlki2:(a:Int)+(k:Int)≤(s.size:Int):=by omega
    have hak:((a:Int)+(k:Int)).toNat=a+k:=by omega
    clear hex hexs hcall
    go_wp2_with fail
    refine (HC.out _).mono ?_
    rintro e w2 ⟨rfl,hb2⟩
    cases b with
    | true =>
      go_wp2_with fail
      refine ⟨⟨k+1,by omega,by omega,by go_num,⟨?_,?_⟩,below_more hB hb2⟩,by simp [intOf];omega⟩
      ·have:=HST.out
       rw [if_neg (by rw [hlen.out];omega),hb.out,if_neg (by simp)] at this
       exact this.symm
      ·rw [hlen.out];omega
    | false =>
      have hw4:W=12:=by rw [HST.out,if_neg (by rw [hlen.out];omega),hb.out,if_pos rfl]
      have he:r1=0∧r2=0∧r3=12:=by
       rcases HRES.out with ⟨h,_⟩ | ⟨_,h1,h2,h3⟩
       ·rw [hw4] at h;exact absurd h (by decide)
       ·exact ⟨h1,h2,by rw [h3,hw4]⟩
      obtain ⟨rfl,rfl,rfl⟩:=he
      clear hw4
      go_wp2_with fail
      go_ret3
      exact ⟨rfl,below_more hB hb2⟩
  ·obtain rfl:k=4:=by omega
   have hW0:W=0:=by rw [← HR.out.1];rfl
   have he:r1=lo l 224 2∧r2=3∧r3=0:=by
    rcases HRES.out with ⟨_,h1,h2,h3⟩ | ⟨h,_⟩
    ·exact ⟨h1,h2,h3⟩
    ·exact absurd hW0 h
   have hwk:=wrong_ok (HW.out.trans hW0) 3 (by omega) (by omega)
   have hll:a+3≤s.size:=by have:=hwk.1;rw [hlen.out] at this;omega
   have hct:Hid (∀ i,i+1<3→128≤byteAt l (i+1)∧byteAt l (i+1)≤191):=fun i hi=>cont_of hwk.2 hwk.1 hi
   obtain ⟨rfl,rfl⟩:=he.2
   have HE:=Lib.hid he.1
   clear he hwk hW0 HRES HW HR
   have hs2:=hB.size
   have hcell:(wr.alloc (.cells #[.int .i64 0,.int .i64 0,.int .i64 192,.int .i64 224,.int .i64 240] 3)).cell? ⟨wr.heap.size,3,none⟩=some (.int .i64 224):=(cell_al_eq wr _ _ wr.heap.size 3 rfl).trans rfl
   go_wp2_with fail
   go_loop [10,11] (fun r i=>∃ (k:Nat) (R:Int),k≤2∧i=.int .i64 ((k:Int)+1)∧r=.int .i64 R∧Hid (lo l 224 k=R)) (fun _ i=>3 - (intOf i).toNat)
   case atStart =>
    refine ⟨0,_,by omega,rfl,rfl,?_⟩
    obtain ⟨_,h0⟩:=hbyte.out 0 (by omega)
    show lo l 224 0=_
    rw [lo,h0];rfl
   case round =>
    obtain ⟨k,R,hk,rfl,rfl,HR⟩:=hrel
    have hLb:=lo_bd l 224 (by omega) (by omega) k (by omega)
    rw [HR.out] at hLb
    obtain ⟨L0,L1⟩:=hLb
    by_cases hks:k+1<3
    ·obtain ⟨hin,hg⟩:=hbyte.out (k+1) (by omega)
     have hgc:=hct.out k hks
     rw [hg] at hgc
     obtain ⟨g1,g2⟩:=hgc
     have HG:=Lib.hid hg
     clear hg
     have k2:((a:Int)+((k:Int)+1)).toNat=a+(k+1):=by omega
     have k3:(a:Int)+((k:Int)+1)<(s.size:Int):=by omega
     have k4:0≤(a:Int)+((k:Int)+1):=by omega
     go_wp2_with fail
     refine ⟨⟨k+1,_,by omega,by go_num,rfl,?_⟩,by simp [intOf];omega⟩
     show lo l 224 (k+1)=_
     rw [lo,HR.out,if_pos (by rw [hlen.out];omega),HG.out]
    ·obtain rfl:k=2:=by omega
     go_wp2_with fail
     go_ret3
     exact ⟨ret3i (HE.out.trans HR.out).symm rfl rfl,bel_alloc hB _⟩
theorem refNext_4 (s:ByteArray) (a:Nat) (w:World) (hs:s.size≤281474976710656) (ha:a<s.size) (hlo:240≤(s[a].toNat:Int)) (hhi:(s[a].toNat:Int)≤247) (r1 r2 r3:Int) (hr:Hid (nextP (s.data.toList.drop a)=(r1,r2,r3))) :
 Calls Tryz.prog 123 #[.string s,.int .i64 a] w fun e w'=>e=.returned (.tuple #[.int .i64 r1,.int .i64 r2,.int .i64 r3])∧Below w.heap.size w w':=by
 obtain ⟨l,hl⟩:∃ l,Hid (s.data.toList.drop a=l):=⟨_,rfl⟩
 have hlen:Hid (l.length=s.size - a):=by rw [← hl.out,List.length_drop];show s.data.toList.length - a=_;rw [size_len]
 have hbyte:Hid (∀ i,a+i<s.size→∃ h:a+i<s.size,byteAt l i=(s[a+i].toNat:Int)):=fun i h=>⟨h,by rw [← hl.out];exact byte_drop s a i h⟩
 rw [hl.out,← refNext_eq] at hr
 have hcons:∃ c t,l=c :: t∧(c.toNat:Int)=(s[a].toNat:Int):=by
  match l,hlen,hbyte with
  | [],hlen,_=>have:=hlen.out;simp at this;omega
  | c :: t,_,hbyte =>
    obtain ⟨_,h0⟩:=hbyte.out 0 (by omega)
    exact ⟨c,t,rfl,by simpa [byteAt] using h0⟩
 obtain ⟨W,hW⟩:∃ W,wrongFrom l 4 4 1=W:=⟨_,rfl⟩
 have hres:(W=0∧r1=lo l 240 3∧r2=4∧r3=0)∨(W≠0∧r1=0∧r2=0∧r3=W):=by
  obtain ⟨c,t,rfl,hc⟩:=hcons
  have e:=hr.out
  have hsz:sizeOf8 c.toNat=4:=by unfold sizeOf8;rw [if_neg (by omega),if_neg (by omega)]
  rw [refNextP,if_neg (by omega),if_neg (by omega),hsz,hW] at e
  by_cases h0:W=0
  ·rw [if_pos h0] at e
   simp only [Prod.mk.injEq] at e
   exact Or.inl ⟨h0,e.1.symm,e.2.1.symm,e.2.2.symm⟩
  ·rw [if_neg h0] at e
   simp only [Prod.mk.injEq] at e
   exact Or.inr ⟨h0,e.1.symm,e.2.1.symm,e.2.2.symm⟩
 have HRES:=Lib.hid hres
 have HW:=Lib.hid hW
 have hai:(a:Int)<(s.size:Int):=by omega
 have hane:((a:Int) == (s.size:Int))=false:=beq_eq_false_iff_ne.2 (by omega)
 have d1:decide ((a:Int)<0)=false:=decide_eq_false (by omega)
 have d7:decide (s.size<a)=false:=decide_eq_false (by omega)
 have d2:decide ((s[a].toNat:Int)<128)=false:=decide_eq_false (by omega)
 have d3:decide ((s[a].toNat:Int)<192)=false:=decide_eq_false (by omega)
 have d4:decide (247<(s[a].toNat:Int))=false:=decide_eq_false (by omega)
 have d5:decide ((s[a].toNat:Int)<224)=false:=decide_eq_false (by omega)
 have d6:decide ((s[a].toNat:Int)<240)=false:=decide_eq_false (by omega)
 clear hres hr hcons hW
 go_enter Tryz.func123,Tryz.ntmps123
 go_wp2_with fail
 go_loopw [9] (fun i wr=>∃ k:Nat,1≤k∧k≤5∧i=.int .i64 k∧Hid (wrongFrom l 4 (5 - k) k=W∧k≤l.length+1)∧Below w.heap.size w wr) (fun i _=>5 - (intOf i).toNat)
 case atStart=>exact ⟨1,by omega,by omega,rfl,⟨HW.out,by omega⟩,Below.refl _ _⟩
 case round =>
  obtain ⟨k,hk1,hk2,rfl,HR,hB⟩:=hrel
  by_cases hkn:k≤4
  ·have hst:wrongFrom l 4 (5 - k) k=if l.length<k then 4 else if beginsB (l.take k) 4=false then 12 else wrongFrom l 4 (5 - (k+1)) (k+1):=by
    rw [show 5 - k=(5 - (k+1))+1 by omega,wrong_step]
   rw [HR.out.1] at hst
   have HST:=Lib.hid hst
   clear hst
   by_cases hlk:s.size<a+k
   ·have hw4:W=4:=by rw [HST.out,if_pos (by rw [hlen.out];omega)]
    have he:r1=0∧r2=0∧r3=4:=by
     rcases HRES.out with ⟨h,_⟩ | ⟨_,h1,h2,h3⟩
     ·rw [hw4] at h;exact absurd h (by decide)
     ·exact ⟨h1,h2,by rw [h3,hw4]⟩
    obtain ⟨rfl,rfl,rfl⟩:=he
    have hlki:(s.size:Int)<(a:Int)+(k:Int):=by omega
    clear hw4
    go_wp2_with fail
    go_ret3
    exact ⟨rfl,hB⟩
   ·have hex:(s.extract a (a+k)).data.toList=l.take k:=by
     rw [Lib.extract_data,hl.out,show a+k - a=k by omega]
    have hexs:(s.extract a (a+k)).size=k:=by
     rw [← size_len,hex,List.length_take,hlen.out];omega
    obtain ⟨b,hb⟩:∃ b,Hid (beginsB (s.extract a (a+k)).data.toList 4=b):=⟨_,rfl⟩
    have hcall:=fun W'=>begins_4 (s.extract a (a+k)) W' (by rw [hexs];exact hk1) (by rw [hexs];exact hkn) b hb
    rw [hex] at hb
    have HC:=Lib.hid hcall
    have hlki:¬ ((s.size:Int)<(a:Int)+(k:Int)):=by omega
    have hlki2:(a:Int)+(k:Int)≤(s.size:Int):=by omega
    have hak:((a:Int)+(k:Int)).toNat=a+k:=by omega
    clear hex hexs hcall
    go_wp2_with fail
    refine (HC.out _).mono ?_
    rintro e w2 ⟨rfl,hb2⟩
    cases b with
    | true =>
      go_wp2_with fail
      refine ⟨⟨k+1,by omega,by omega,by go_num,⟨?_,?_⟩,below_more hB hb2⟩,by simp [intOf];omega⟩
      ·have:=HST.out
       rw [if_neg (by rw [hlen.out];omega),hb.out,if_neg (by simp)] at this
       exact this.symm
      ·rw [hlen.out];omega
    | false =>
      have hw4:W=12:=by rw [HST.out,if_neg (by rw [hlen.out];omega),hb.out,if_pos rfl]
      have he:r1=0∧r2=0∧r3=12:=by
       rcases HRES.out with ⟨h,_⟩ | ⟨_,h1,h2,h3⟩
       ·rw [hw4] at h;exact absurd h (by decide)
       ·exact ⟨h1,h2,by rw [h3,hw4]⟩
      obtain ⟨rfl,rfl,rfl⟩:=he
      clear hw4
      go_wp2_with fail
      go_ret3
      exact ⟨rfl,below_more hB hb2⟩
  ·obtain rfl:k=5:=by omega
   have hW0:W=0:=by rw [← HR.out.1];rfl
   have he:r1=lo l 240 3∧r2=4∧r3=0:=by
    rcases HRES.out with ⟨_,h1,h2,h3⟩ | ⟨h,_⟩
    ·exact ⟨h1,h2,h3⟩
    ·exact absurd hW0 h
   have hwk:=wrong_ok (HW.out.trans hW0) 4 (by omega) (by omega)
   have hll:a+4≤s.size:=by have:=hwk.1;rw [hlen.out] at this;omega
   have hct:Hid (∀ i,i+1<4→128≤byteAt l (i+1)∧byteAt l (i+1)≤191):=fun i hi=>cont_of hwk.2 hwk.1 hi
   obtain ⟨rfl,rfl⟩:=he.2
   have HE:=Lib.hid he.1
   clear he hwk hW0 HRES HW HR
   have hs2:=hB.size
   have hcell:(wr.alloc (.cells #[.int .i64 0,.int .i64 0,.int .i64 192,.int .i64 224,.int .i64 240] 3)).cell? ⟨wr.heap.size,4,none⟩=some (.int .i64 240):=(cell_al_eq wr _ _ wr.heap.size 4 rfl).trans rfl
   go_wp2_with fail
   go_loop [10,11] (fun r i=>∃ (k:Nat) (R:Int),k≤3∧i=.int .i64 ((k:Int)+1)∧r=.int .i64 R∧Hid (lo l 240 k=R)) (fun _ i=>4 - (intOf i).toNat)
   case atStart =>
    refine ⟨0,_,by omega,rfl,rfl,?_⟩
    obtain ⟨_,h0⟩:=hbyte.out 0 (by omega)
    show lo l 240 0=_
    rw [lo,h0];rfl
   case round =>
    obtain ⟨k,R,hk,rfl,rfl,HR⟩:=hrel
    have hLb:=lo_bd l 240 (by omega) (by omega) k (by omega)
    rw [HR.out] at hLb
    obtain ⟨L0,L1⟩:=hLb
    by_cases hks:k+1<4
    ·obtain ⟨hin,hg⟩:=hbyte.out (k+1) (by omega)
     have hgc:=hct.out k hks
     rw [hg] at hgc
     obtain ⟨g1,g2⟩:=hgc
     have HG:=Lib.hid hg
     clear hg
     have k2:((a:Int)+((k:Int)+1)).toNat=a+(k+1):=by omega
     have k3:(a:Int)+((k:Int)+1)<(s.size:Int):=by omega
     have k4:0≤(a:Int)+((k:Int)+1):=by omega
     go_wp2_with fail
     refine ⟨⟨k+1,_,by omega,by go_num,rfl,?_⟩,by simp [intOf];omega⟩
     show lo l 240 (k+1)=_
     rw [lo,HR.out,if_pos (by rw [hlen.out];omega),HG.out]
    ·obtain rfl:k=3:=by omega
     go_wp2_with fail
     go_ret3
     exact ⟨ret3i (HE.out.trans HR.out).symm rfl rfl,bel_alloc hB _⟩
theorem refNext_in (s:ByteArray) (a:Nat) (w:World) (hs:s.size≤281474976710656) (ha:a≤s.size) (r1 r2 r3:Int) (hr:Hid (nextP (s.data.toList.drop a)=(r1,r2,r3))) :
 Calls Tryz.prog 123 #[.string s,.int .i64 a] w fun e w'=>e=.returned (.tuple #[.int .i64 r1,.int .i64 r2,.int .i64 r3])∧Below w.heap.size w w':=by
 by_cases hae:a=s.size
 ·have e:=hr.out
  rw [List.drop_of_length_le (by rw [size_len];omega)] at e
  simp only [nextP,Prod.mk.injEq] at e
  obtain ⟨rfl,rfl,rfl⟩:=e
  have hane:((a:Int) == (s.size:Int))=true:=by rw [hae];exact beq_self_eq_true _
  have d7:¬ s.size<a:=by omega
  clear hr hae
  go_enter Tryz.func123,Tryz.ntmps123
  go_wp2_with fail
  go_ret3
  exact ⟨rfl,Below.refl _ _⟩
 ·have hlt:a<s.size:=by omega
  have hbyte:=byte_drop s a 0 (by omega)
  have hc256:=u8_lt s[a]
  have hcons:∃ c t,s.data.toList.drop a=c :: t∧c.toNat=s[a].toNat:=by
   match hl:s.data.toList.drop a with
   | [] =>
     have:=congrArg List.length hl
     rw [List.length_drop,size_len] at this
     simp at this;omega
   | c :: t =>
     rw [hl] at hbyte
     refine ⟨c,t,rfl,?_⟩
     have:(c.toNat:Int)=(s[a].toNat:Int):=by simpa [byteAt] using hbyte
     omega
  by_cases h1:s[a].toNat<128
  ·obtain ⟨c,t,hl,hc⟩:=hcons
   have e:=hr.out
   rw [hl,next1 t (by omega)] at e
   simp only [Prod.mk.injEq] at e
   obtain ⟨e1,rfl,rfl⟩:=e
   have e2:r1=(s[a].toNat:Int):=by rw [← e1,hc]
   have HE:=Lib.hid e2
   have hane:((a:Int) == (s.size:Int))=false:=beq_eq_false_iff_ne.2 (by omega)
   have d1:(s[a].toNat:Int)<128:=by omega
   have d2:(s[a].toNat:Int)≤255:=by omega
   clear hr hae e1 e2 hl hbyte hc
   go_enter Tryz.func123,Tryz.ntmps123
   go_wp2_with fail
   go_ret3
   exact ⟨ret3i HE.out.symm rfl rfl,Below.refl _ _⟩
  ·by_cases h2:s[a].toNat<192∨247<s[a].toNat
   ·obtain ⟨c,t,hl,hc⟩:=hcons
    have e:=hr.out
    rw [hl,next_bad t (by omega) (by omega)] at e
    simp only [Prod.mk.injEq] at e
    obtain ⟨rfl,rfl,rfl⟩:=e
    have hane:((a:Int) == (s.size:Int))=false:=beq_eq_false_iff_ne.2 (by omega)
    have d1:¬ (s[a].toNat:Int)<128:=by omega
    clear hr hae hl hbyte hc
    by_cases h3:s[a].toNat<192
    ·have d2:(s[a].toNat:Int)<192:=by omega
     go_enter Tryz.func123,Tryz.ntmps123
     go_wp2_with fail
     go_ret3
     exact ⟨rfl,Below.refl _ _⟩
    ·have d2:¬ (s[a].toNat:Int)<192:=by omega
     have d3:247<(s[a].toNat:Int):=by omega
     go_enter Tryz.func123,Tryz.ntmps123
     go_wp2_with fail
     go_ret3
     exact ⟨rfl,Below.refl _ _⟩
   ·by_cases h3:s[a].toNat<224
    ·exact refNext_2 s a w hs hlt (by omega) (by omega) r1 r2 r3 hr
    ·by_cases h4:s[a].toNat<240
     ·exact refNext_3 s a w hs hlt (by omega) (by omega) r1 r2 r3 hr
     ·exact refNext_4 s a w hs hlt (by omega) (by omega) r1 r2 r3 hr
theorem next_size (l:List UInt8) (h:(nextP l).2.2=0):1≤(nextP l).2.1∧(nextP l).2.1≤l.length:=by
 match l with
 | []=>simp [nextP] at h
 | c :: r =>
   by_cases h1:c.toNat<128
   ·rw [next1 r h1];simp;omega
   ·by_cases h2:c.toNat<194∨244<c.toNat
    ·rw [next_bad r h1 h2] at h;simp at h
    ·by_cases h3:c.toNat<224
     ·rw [next2 r (by omega) h3] at h ⊢
      match r with
      | []=>simp [next2P] at h
      | d :: r =>
        rw [next2P] at h ⊢
        split at h
        ·simp at h
        ·rename_i hd;rw [if_neg hd];simp;omega
     ·by_cases h5:c.toNat<240
      ·rw [next3 r h3 h5] at h ⊢
       match r with
       | []=>simp [next3P] at h
       | d :: r =>
         rw [next3P] at h ⊢
         split at h
         ·rename_i hd
          rw [if_pos hd]
          match r with
          | []=>simp [next3Q] at h
          | e :: r =>
            rw [next3Q] at h ⊢
            split at h
            ·simp at h
            ·rename_i he;rw [if_neg he];simp;omega
         ·simp at h
      ·rw [next4 r h5 (by omega)] at h ⊢
       match r with
       | []=>simp [next4P] at h
       | d :: r =>
         rw [next4P] at h ⊢
         split at h
         ·rename_i hd
          rw [if_pos hd]
          match r with
          | []=>simp [next4Q] at h
          | e :: r =>
            rw [next4Q] at h ⊢
            split at h
            ·simp at h
            ·rename_i he
             rw [if_neg he]
             match r with
             | []=>simp [next4R] at h
             | f :: r =>
               rw [next4R] at h ⊢
               split at h
               ·simp at h
               ·rename_i hf;rw [if_neg hf];simp;omega
         ·simp at h
def RefLenPost (s:ByteArray) (w:World) (e:Ending) (w':World):Prop :=
 ∃ n:Int,e=.returned (.tuple #[.int .i64 n,.bool (utfOK s)])∧Below w.heap.size w w'
theorem refLen_any (s:ByteArray) (w:World) (hs:s.size≤281474976710656) :
 Calls Tryz.prog 105 #[.string s] w (RefLenPost s w):=by
 go_enter Tryz.func105,Tryz.ntmps105
 go_wp2_with fail
 go_loopw [4,5] (fun n i wr=>∃ (k fuel:Nat) (m:Int),k≤s.size∧i=.int .i64 k∧n=.int .i64 m∧0≤m∧m≤(k:Int)∧s.size≤k+fuel∧Hid (lenGo (s.data.toList.drop k) fuel=utfOK s)∧Below w.heap.size w wr) (fun _ i _=>s.size - (intOf i).toNat)
 case atStart=>exact ⟨0,s.size,0,by omega,rfl,rfl,by omega,by omega,by omega,(utfOK_len s).symm,Below.refl _ _⟩
 case round =>
  obtain ⟨k,fuel,m,hk,rfl,rfl,m0,m1,hf,HG,hB⟩:=hrel
  by_cases hkl:k<s.size
  ·obtain ⟨f,rfl⟩:∃ f,fuel=f+1:=⟨fuel - 1,by omega⟩
   obtain ⟨⟨r1,r2,r3⟩,hr⟩:∃ r,nextP (s.data.toList.drop k)=r:=⟨_,rfl⟩
   have hg:=HG.out
   have hne:s.data.toList.drop k≠[]:=by
    intro e
    have:=congrArg List.length e
    rw [List.length_drop,size_len] at this
    simp at this;omega
   rw [lenGo,if_neg hne,hr] at hg
   have hsz:=next_size (s.data.toList.drop k)
   rw [hr,List.length_drop,size_len] at hsz
   simp only [] at hg hsz
   have HSZ:=Lib.hid hsz
   have HGG:=Lib.hid hg
   have HR:=Lib.hid hr
   clear hg hsz hr hne HG
   go_wp2_with fail
   refine (refNext_in s k _ hs hk r1 r2 r3 HR).mono ?_
   rintro e w2 ⟨rfl,hb2⟩
   by_cases h3:r3=0
   ·obtain ⟨z1,z2⟩:=HSZ.out h3
    have hb3:(r3 != 0)=false:=by simp [h3]
    have h2n:∃ j:Nat,r2=(j:Int):=⟨r2.toNat,by omega⟩
    obtain ⟨j,rfl⟩:=h2n
    have hg2:=HGG.out
    rw [if_pos h3,List.drop_drop,show ((j:Int)).toNat=j by omega] at hg2
    have HG2:=Lib.hid hg2
    clear hg2 h3
    go_wp2_with fail
    exact ⟨⟨k+j,f,m+1,by omega,by go_num,rfl,by omega,by omega,by omega,HG2.out,below_more hB hb2⟩,by simp [intOf];omega⟩
   ·have hb3:(r3 != 0)=true:=by simp [h3]
    have hno:utfOK s=false:=by have:=HGG.out;rw [if_neg h3] at this;exact this.symm
    have HNO:=Lib.hid hno
    clear hno h3
    go_wp2_with fail
    go_ret2
    exact ⟨0,by rw [HNO.out];rfl,below_more hB hb2⟩
  ·have hyes:utfOK s=true:=by
    have:=HG.out
    rw [List.drop_of_length_le (by rw [size_len];omega)] at this
    rw [← this]
    cases fuel <;> simp [lenGo]
   have HY:=Lib.hid hyes
   clear hyes
   go_wp2_with fail
   go_ret2
   exact ⟨m,by rw [HY.out];rfl,hB⟩
end
end Go.Proofs.YtchinankclckjaaGreatDoor
