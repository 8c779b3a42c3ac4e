/-
 The value that a text of JSON says, plainly: over the row of its marks.
 Laws of reading: what is read is a piece at the front of the row of marks, and nothing behind it is looked at; the marks of two texts, one behind the other.
 Laws of reading, plainly: a mark behind a text; a front of a text.
 How many values have begun behind a value.
 Members in the order of their names: the one sorted row.
-/
import Derived.Test.YtchinankclckjaaGreatDoorLexP
import Derived.Test.YtchinankclckjaaGreatDoorValA
import Derived.Sort.Walk0
import Derived.Sort.Statements
import Derived.Lib.Bytealg
namespace Go.Proofs.YtchinankclckjaaGreatDoor
section
open Go.RowKit
inductive Lx where
 | tok (m:Mk)
 | err (p:Nat) (e:Int)
def lexGo:Nat→List UInt8→Nat→List Lx
 | 0,_,_=>[]
 | f+1,l,p =>
   if (tokB l).e≠0 then [.err (p+blanks l) (tokB l).e]
   else .tok ((tokB l).at (p+blanks l)) :: (if (tokB l).k=11 then [] else lexGo f (l.drop (blanks l+(tokB l).len)) (p+blanks l+(tokB l).len))
def lexes (l:List UInt8) (p:Nat):List Lx:=lexGo (l.length+1) l p
theorem lexGo_fuel:∀ (f g:Nat) (l:List UInt8) (p:Nat),l.length<f→l.length<g→lexGo f l p=lexGo g l p
 | 0,_,_,_,h,_=>by omega
 | _+1,0,_,_,_,h=>by omega
 | f+1,g+1,l,p,hf,hg=>by
   rw [lexGo,lexGo]
   by_cases h1:(tokB l).e≠0
   ·rw [if_pos h1,if_pos h1]
   ·rw [if_neg h1,if_neg h1]
    by_cases h2:(tokB l).k=11
    ·rw [if_pos h2,if_pos h2]
    ·rw [if_neg h2,if_neg h2]
     have h0:(tokB l).e=0:=by simpa using h1
     have hne:l.drop (blanks l)≠[]:=fun h=>h2 ((tok_end h0).2 h)
     obtain ⟨k1,k2,_⟩:=tokP_ok hne h0
     have k3:1≤(tokB l).len:=k1
     have k4:(tokB l).len≤(l.drop (blanks l)).length:=k2
     rw [List.length_drop] at k4
     have:=blanks_le l
     rw [lexGo_fuel f g _ _ (by rw [List.length_drop];omega) (by rw [List.length_drop];omega)]
theorem lexes_step (l:List UInt8) (p:Nat):lexes l p =
 if (tokB l).e≠0 then [.err (p+blanks l) (tokB l).e]
 else .tok ((tokB l).at (p+blanks l)) :: (if (tokB l).k=11 then [] else lexes (l.drop (blanks l+(tokB l).len)) (p+blanks l+(tokB l).len)):=by
 unfold lexes
 rw [lexGo]
 by_cases h1:(tokB l).e≠0
 ·rw [if_pos h1,if_pos h1]
 ·rw [if_neg h1,if_neg h1]
  by_cases h2:(tokB l).k=11
  ·rw [if_pos h2,if_pos h2]
  ·rw [if_neg h2,if_neg h2]
   have h0:(tokB l).e=0:=by simpa using h1
   have hne:l.drop (blanks l)≠[]:=fun h=>h2 ((tok_end h0).2 h)
   obtain ⟨k1,k2,_⟩:=tokP_ok hne h0
   have k3:1≤(tokB l).len:=k1
   have k4:(tokB l).len≤(l.drop (blanks l)).length:=k2
   rw [List.length_drop] at k4
   have:=blanks_le l
   rw [lexGo_fuel l.length (((l.drop (blanks l+(tokB l).len)).length)+1) _ _ (by rw [List.length_drop];omega) (by omega)]
theorem lexes_bad (s:List UInt8) (z:Nat) (m:Mk) (e:Int) (h:nextM s z=(m,e)) (he:e≠0):lexes (s.drop z) z=[.err (z+blanks (s.drop z)) e]:=by
 unfold nextM at h
 rw [lexes_step]
 by_cases h1:(tokB (s.drop z)).e≠0
 ·rw [if_pos h1] at h
  simp only [Prod.mk.injEq] at h
  rw [if_pos h1,h.2]
 ·rw [if_neg h1] at h
  simp only [Prod.mk.injEq] at h
  exact absurd h.2.symm he
theorem lexes_tok (s:List UInt8) (z:Nat) (m:Mk) (h:nextM s z=(m,0)):lexes (s.drop z) z=.tok m :: (if m.k=11 then [] else lexes (s.drop m.z) m.z):=by
 unfold nextM at h
 rw [lexes_step]
 by_cases h1:(tokB (s.drop z)).e≠0
 ·rw [if_pos h1] at h
  simp only [Prod.mk.injEq] at h
  exact absurd h.2 h1
 ·rw [if_neg h1] at h
  simp only [Prod.mk.injEq] at h
  obtain ⟨h,-⟩:=h
  rw [if_neg h1,h]
  subst h
  simp only [Tok.at]
  rw [List.drop_drop,Nat.add_assoc]
  rfl
theorem nextM_ok {s:List UInt8} {z:Nat} {m:Mk} (hz:z≤s.length) (h:nextM s z=(m,0)):z≤m.a∧m.a=z+blanks (s.drop z)∧m.a≤m.z∧m.z≤s.length∧1≤m.k∧m.k≤11∧(m.k≠11→z<m.z)∧(m.k≠9→m.n=0)∧(m.k≠10→m.t=[]):=by
 unfold nextM at h
 by_cases h1:(tokB (s.drop z)).e≠0
 ·rw [if_pos h1] at h
  simp only [Prod.mk.injEq] at h
  exact absurd h.2 h1
 ·rw [if_neg h1] at h
  simp only [Prod.mk.injEq] at h
  obtain ⟨h,-⟩:=h
  have h0:(tokB (s.drop z)).e=0:=by simpa using h1
  have hbl:=blanks_le (s.drop z)
  rw [List.length_drop] at hbl
  subst h
  simp only [Tok.at]
  by_cases hne:(s.drop z).drop (blanks (s.drop z))=[]
  ·have ht:tokB (s.drop z)=⟨11,0,0,[],0⟩:=by unfold tokB;rw [hne];rfl
   rw [ht]
   exact ⟨by omega,trivial,by simp only [];omega,by simp only [];omega,by simp,by simp,by simp,by simp,by simp⟩
  ·obtain ⟨k1,k2,k3,k4,k5,k6⟩:=tokP_ok hne h0
   rw [List.length_drop,List.length_drop] at k2
   have j1:1≤(tokB (s.drop z)).len:=k1
   have j2:(tokB (s.drop z)).len≤s.length - z - blanks (s.drop z):=k2
   have j4:(tokB (s.drop z)).k≤10:=k4
   exact ⟨by omega,trivial,by omega,by omega,k3,by omega,fun _=>by omega,k5,k6⟩
/-! The values. -/
inductive PR (α:Type) where
 | bad (p:Nat) (e:Int)
 | ok (v:α) (ms:List Lx) (c:Nat)
def wrongE (m:Mk) (e:Int):Int:=if m.k=11 then 4 else e
def nextL {α:Type} (f:Mk→List Lx→PR α):List Lx→PR α
 | []=>.bad 0 0
 | .err p e :: _=>.bad p e
 | .tok m :: r=>f m r
abbrev Mem:=ByteArray × JV
def nmLt (a b:ByteArray):Bool:=Op.bytesLess a.toList b.toList
def insM (x:Mem):List Mem→List Mem
 | []=>[x]
 | y :: r=>if nmLt y.1 x.1 then y :: insM x r else x :: y :: r
def sortM (l:List Mem):List Mem:=l.foldl (fun acc x=>insM x acc) []
def listV (items:List JV):JV:=.mk 4 0 ⟨#[]⟩ [] items
def objV (l:List Mem):JV:=.mk 5 0 ⟨#[]⟩ ((sortM l).map Prod.fst) ((sortM l).map Prod.snd)
def hasN (acc:List Mem) (n:ByteArray):Bool:=acc.any fun x=>x.1.data.toList == n.data.toList
def Mk.name (m:Mk):ByteArray:=⟨m.t.toArray⟩
def moreP {α:Type} (last:Int) (fin:List Lx→PR α) (go:Mk→List Lx→PR α):List Lx→PR α :=
 nextL fun m r=>if m.k=last then fin r else if m.k=5 then nextL go r else .bad m.a (wrongE m 3)
def itemsP (val:Mk→List Lx→Nat→PR JV):Nat→Mk→List Lx→Nat→List JV→PR JV
 | 0,_,_,_,_=>.bad 0 0
 | f+1,m,ms,c,acc =>
   match val m ms c with
   | .bad p e=>.bad p e
   | .ok v ms c=>moreP 4 (fun r=>.ok (listV (acc++[v])) r c) (fun m r=>itemsP val f m r c (acc++[v])) ms
def membersP (val:Mk→List Lx→Nat→PR JV):Nat→Mk→List Lx→Nat→List Mem→PR JV
 | 0,_,_,_,_=>.bad 0 0
 | f+1,m,ms,c,acc =>
   if m.k≠10 then .bad m.a (wrongE m 3)
   else if hasN acc m.name=true then .bad m.a 7
   else nextL (fun m2 ms=>if m2.k≠6 then .bad m2.a (wrongE m2 3) else nextL (fun m3 ms =>
    match val m3 ms c with
    | .bad p e=>.bad p e
    | .ok v ms c=>moreP 2 (fun r=>.ok (objV (acc++[(m.name,v)])) r c) (fun m4 r=>membersP val f m4 r c (acc++[(m.name,v)])) ms) ms) ms
def begV (m:Mk):Bool:=m.k == 1 || m.k == 3 || m.k == 7 || m.k == 8 || m.k == 9 || m.k == 10
def leafV (m:Mk):JV:=if m.k=7 then .mk 1 1 ⟨#[]⟩ [] [] else if m.k=8 then .mk 1 0 ⟨#[]⟩ [] [] else if m.k=9 then .mk 2 m.n ⟨#[]⟩ [] [] else .mk 3 0 m.name [] []
def listP (val:Mk→List Lx→Nat→PR JV) (ms:List Lx) (c:Nat):PR JV:=nextL (fun m r=>if m.k=4 then .ok (listV []) r c else itemsP val (r.length+1) m r c []) ms
def objP (val:Mk→List Lx→Nat→PR JV) (ms:List Lx) (c:Nat):PR JV:=nextL (fun m r=>if m.k=2 then .ok (objV []) r c else membersP val (r.length+1) m r c []) ms
def valP:Nat→Mk→List Lx→Nat→PR JV
 | d,m,ms,c =>
   if begV m=false then .bad m.a (wrongE m 3)
   else if 8192≤c then .bad m.a 5
   else if m.k≠1∧m.k≠3 then .ok (leafV m) ms (c+1)
   else match d with
    | 0=>.bad m.a 8
    | d+1=>if m.k=3 then listP (valP d) ms (c+1) else objP (valP d) ms (c+1)
def endP (v:JV) (ms:List Lx) (c:Nat):PR JV:=nextL (fun m r=>if m.k≠11 then .bad m.a 11 else .ok v r c) ms
def topP (m:Mk) (ms:List Lx):PR JV :=
 match valP 12 m ms 0 with
 | .bad p e=>.bad p e
 | .ok v ms c=>endP v ms c
def readV (s:List UInt8):PR JV:=if 65536<s.length then .bad 0 5 else nextL topP (lexes s 0)
end
section
open Go.RowKit
def Toks (ms:List Lx):Prop:=∀ x ∈ ms,∃ m,x=.tok m
theorem toks_cons {m:Mk} {ms:List Lx} (h:Toks ms):Toks (.tok m :: ms):=fun x hx=>by
 simp only [List.mem_cons] at hx
 rcases hx with rfl | hx
 ·exact ⟨m,rfl⟩
 ·exact h x hx
theorem toks_app {a b:List Lx} (h:Toks a) (k:Toks b):Toks (a++b):=fun x hx=>by
 simp only [List.mem_append] at hx
 rcases hx with hx | hx
 ·exact h x hx
 ·exact k x hx
theorem toks_nil:Toks []:=fun x hx=>by simp at hx
theorem nextL_ok {α:Type} {f:Mk→List Lx→PR α} {ms ms':List Lx} {v:α} {c:Nat} (h:nextL f ms=.ok v ms' c):∃ m r,ms=.tok m :: r∧f m r=.ok v ms' c:=by
 match ms,h with
 | .tok m :: r,h=>exact ⟨m,r,rfl,h⟩
 | .err p e :: r,h=>simp [nextL] at h
 | [],h=>simp [nextL] at h
def ValTakes (val:Mk→List Lx→Nat→PR JV):Prop:=∀ m ms c v ms' c',val m ms c=.ok v ms' c'→∃ pre,Toks pre∧ms=pre++ms'∧∀ A,val m (pre++A) c=.ok v A c'
theorem items_takes {val:Mk→List Lx→Nat→PR JV} (hv:ValTakes val):∀ (f:Nat) (m:Mk) (ms:List Lx) (c:Nat) (acc:List JV) (v:JV) (ms':List Lx) (c':Nat),itemsP val f m ms c acc=.ok v ms' c' →
 ∃ pre,Toks pre∧ms=pre++ms'∧∀ A g,pre.length<g→itemsP val g m (pre++A) c acc=.ok v A c'
 | 0,m,ms,c,acc,v,ms',c',h=>by simp [itemsP] at h
 | f+1,m,ms,c,acc,v,ms',c',h=>by
   rw [itemsP] at h
   cases hval:val m ms c with
   | bad p e=>rw [hval] at h;simp at h
   | ok u ms1 c1 =>
     rw [hval] at h
     obtain ⟨pre1,ht1,rfl,hp1⟩:=hv m ms c u ms1 c1 hval
     simp only [moreP] at h
     obtain ⟨m2,r2,ee,h'⟩:=nextL_ok h
     clear h
     have h:=h'
     clear h'
     subst ee
     by_cases k4:m2.k=4
     ·rw [if_pos k4] at h
      simp only [PR.ok.injEq] at h
      obtain ⟨rfl,rfl,rfl⟩:=h
      refine ⟨pre1++[.tok m2],toks_app ht1 (toks_cons toks_nil),by simp,fun A g hg=>?_⟩
      match g,hg with
      | g+1,_ =>
        rw [itemsP,List.append_assoc,hp1]
        show (if m2.k=4 then _ else _)=_
        exact if_pos k4
     ·rw [if_neg k4] at h
      by_cases k5:m2.k=5
      ·rw [if_pos k5] at h
       obtain ⟨m3,r3,ee,h'⟩:=nextL_ok h
       clear h
       have h:=h'
       clear h'
       subst ee
       obtain ⟨pre2,ht2,rfl,hp2⟩:=items_takes hv f m3 r3 c1 _ v ms' c' h
       refine ⟨pre1 ++ .tok m2 :: .tok m3 :: pre2,toks_app ht1 (toks_cons (toks_cons ht2)),by simp,fun A g hg=>?_⟩
       match g,hg with
       | g+1,hg =>
         have e:pre1 ++ .tok m2 :: .tok m3 :: pre2++A=pre1++(.tok m2 :: .tok m3 :: (pre2++A)):=by simp
         rw [itemsP,e,hp1]
         show (if m2.k=4 then _ else if m2.k=5 then _ else _)=_
         rw [if_neg k4,if_pos k5]
         exact hp2 A g (by simp at hg;omega)
      ·rw [if_neg k5] at h
       simp at h
theorem members_takes {val:Mk→List Lx→Nat→PR JV} (hv:ValTakes val):∀ (f:Nat) (m:Mk) (ms:List Lx) (c:Nat) (acc:List Mem) (v:JV) (ms':List Lx) (c':Nat),membersP val f m ms c acc=.ok v ms' c' →
 ∃ pre,Toks pre∧ms=pre++ms'∧∀ A g,pre.length<g→membersP val g m (pre++A) c acc=.ok v A c'
 | 0,m,ms,c,acc,v,ms',c',h=>by simp [membersP] at h
 | f+1,m,ms,c,acc,v,ms',c',h=>by
   rw [membersP] at h
   by_cases h10:m.k≠10
   ·rw [if_pos h10] at h;simp at h
   rw [if_neg h10] at h
   by_cases hn:hasN acc m.name=true
   ·rw [if_pos hn] at h;simp at h
   rw [if_neg hn] at h
   obtain ⟨m2,r2,ee,h'⟩:=nextL_ok h
   clear h
   have h:=h'
   clear h'
   subst ee
   by_cases h6:m2.k≠6
   ·rw [if_pos h6] at h;simp at h
   rw [if_neg h6] at h
   obtain ⟨m3,r3,ee,h'⟩:=nextL_ok h
   clear h
   have h:=h'
   clear h'
   subst ee
   cases hval:val m3 r3 c with
   | bad p e=>rw [hval] at h;simp at h
   | ok u ms1 c1 =>
     rw [hval] at h
     obtain ⟨pre1,ht1,rfl,hp1⟩:=hv m3 r3 c u ms1 c1 hval
     simp only [moreP] at h
     obtain ⟨m4,r4,ee,h'⟩:=nextL_ok h
     clear h
     have h:=h'
     clear h'
     subst ee
     by_cases k2:m4.k=2
     ·rw [if_pos k2] at h
      simp only [PR.ok.injEq] at h
      obtain ⟨rfl,rfl,rfl⟩:=h
      refine ⟨.tok m2 :: .tok m3 :: (pre1++[.tok m4]),toks_cons (toks_cons (toks_app ht1 (toks_cons toks_nil))),by simp,fun A g hg=>?_⟩
      match g,hg with
      | g+1,_ =>
        rw [membersP,if_neg h10,if_neg hn]
        show (if m2.k≠6 then _ else match val m3 (pre1++[.tok m4]++A) c with | .bad p e=>_ | .ok v ms c=>_)=_
        rw [if_neg h6,List.append_assoc,hp1]
        show (if m4.k=2 then _ else _)=_
        exact if_pos k2
     ·rw [if_neg k2] at h
      by_cases k5:m4.k=5
      ·rw [if_pos k5] at h
       obtain ⟨m5,r5,ee,h'⟩:=nextL_ok h
       clear h
       have h:=h'
       clear h'
       subst ee
       obtain ⟨pre2,ht2,rfl,hp2⟩:=members_takes hv f m5 r5 c1 _ v ms' c' h
       refine ⟨.tok m2 :: .tok m3 :: (pre1 ++ .tok m4 :: .tok m5 :: pre2),toks_cons (toks_cons (toks_app ht1 (toks_cons (toks_cons ht2)))),by simp,fun A g hg=>?_⟩
       match g,hg with
       | g+1,hg =>
         have e:pre1 ++ .tok m4 :: .tok m5 :: pre2++A=pre1++(.tok m4 :: .tok m5 :: (pre2++A)):=by simp
         rw [membersP,if_neg h10,if_neg hn]
         show (if m2.k≠6 then _ else match val m3 (pre1 ++ .tok m4 :: .tok m5 :: pre2++A) c with | .bad p e=>_ | .ok v ms c=>_)=_
         rw [if_neg h6,e,hp1]
         show (if m4.k=2 then _ else if m4.k=5 then _ else _)=_
         rw [if_neg k2,if_pos k5]
         exact hp2 A g (by simp at hg;omega)
      ·rw [if_neg k5] at h
       simp at h
theorem list_takes {val:Mk→List Lx→Nat→PR JV} (hv:ValTakes val) (ms:List Lx) (c:Nat) (v:JV) (ms':List Lx) (c':Nat) (h:listP val ms c=.ok v ms' c'):∃ pre,Toks pre∧ms=pre++ms'∧∀ A,listP val (pre++A) c=.ok v A c':=by
 unfold listP at h
 obtain ⟨m,r,ee,h'⟩:=nextL_ok h
 clear h
 have h:=h'
 clear h'
 subst ee
 by_cases k4:m.k=4
 ·rw [if_pos k4] at h
  simp only [PR.ok.injEq] at h
  obtain ⟨rfl,rfl,rfl⟩:=h
  refine ⟨[.tok m],toks_cons toks_nil,by simp,fun A=>?_⟩
  show (if m.k=4 then _ else _)=_
  exact if_pos k4
 ·rw [if_neg k4] at h
  obtain ⟨pre,ht,rfl,hp⟩:=items_takes hv _ m r c _ v ms' c' h
  refine ⟨.tok m :: pre,toks_cons ht,by simp,fun A=>?_⟩
  show (if m.k=4 then _ else _)=_
  rw [if_neg k4]
  exact hp A _ (by simp;omega)
theorem obj_takes {val:Mk→List Lx→Nat→PR JV} (hv:ValTakes val) (ms:List Lx) (c:Nat) (v:JV) (ms':List Lx) (c':Nat) (h:objP val ms c=.ok v ms' c'):∃ pre,Toks pre∧ms=pre++ms'∧∀ A,objP val (pre++A) c=.ok v A c':=by
 unfold objP at h
 obtain ⟨m,r,ee,h'⟩:=nextL_ok h
 clear h
 have h:=h'
 clear h'
 subst ee
 by_cases k4:m.k=2
 ·rw [if_pos k4] at h
  simp only [PR.ok.injEq] at h
  obtain ⟨rfl,rfl,rfl⟩:=h
  refine ⟨[.tok m],toks_cons toks_nil,by simp,fun A=>?_⟩
  show (if m.k=2 then _ else _)=_
  exact if_pos k4
 ·rw [if_neg k4] at h
  obtain ⟨pre,ht,rfl,hp⟩:=members_takes hv _ m r c _ v ms' c' h
  refine ⟨.tok m :: pre,toks_cons ht,by simp,fun A=>?_⟩
  show (if m.k=2 then _ else _)=_
  rw [if_neg k4]
  exact hp A _ (by simp;omega)
theorem val_takes:∀ d,ValTakes (valP d)
 | 0=>fun m ms c v ms' c' h=>by
   rw [valP] at h
   by_cases h1:begV m=false
   ·rw [if_pos h1] at h;simp at h
   by_cases h2:8192≤c
   ·rw [if_neg h1,if_pos h2] at h;simp at h
   by_cases h3:m.k≠1∧m.k≠3
   ·rw [if_neg h1,if_neg h2,if_pos h3] at h
    simp only [PR.ok.injEq] at h
    obtain ⟨rfl,rfl,rfl⟩:=h
    refine ⟨[],toks_nil,rfl,fun A=>?_⟩
    rw [valP,if_neg h1,if_neg h2,if_pos h3];rfl
   ·rw [if_neg h1,if_neg h2,if_neg h3] at h;simp at h
 | d+1=>fun m ms c v ms' c' h=>by
   rw [valP] at h
   by_cases h1:begV m=false
   ·rw [if_pos h1] at h;simp at h
   by_cases h2:8192≤c
   ·rw [if_neg h1,if_pos h2] at h;simp at h
   by_cases h3:m.k≠1∧m.k≠3
   ·rw [if_neg h1,if_neg h2,if_pos h3] at h
    simp only [PR.ok.injEq] at h
    obtain ⟨rfl,rfl,rfl⟩:=h
    refine ⟨[],toks_nil,rfl,fun A=>?_⟩
    rw [valP,if_neg h1,if_neg h2,if_pos h3];rfl
   ·rw [if_neg h1,if_neg h2,if_neg h3] at h
    by_cases h4:m.k=3
    ·rw [if_pos h4] at h
     obtain ⟨pre,ht,rfl,hp⟩:=list_takes (val_takes d) ms _ v ms' c' h
     refine ⟨pre,ht,rfl,fun A=>?_⟩
     rw [valP,if_neg h1,if_neg h2,if_neg h3,if_pos h4]
     exact hp A
    ·rw [if_neg h4] at h
     obtain ⟨pre,ht,rfl,hp⟩:=obj_takes (val_takes d) ms _ v ms' c' h
     refine ⟨pre,ht,rfl,fun A=>?_⟩
     rw [valP,if_neg h1,if_neg h2,if_neg h3,if_neg h4]
     exact hp A
/-! The marks of a text, and of what stands behind it. -/
end
section
open Go.RowKit
/-! How a list ends, and an object. -/
/-! Where a text is refused: at a place of it, or at its end. -/
def LxIn (B:Nat) (ms:List Lx):Prop:=∀ x ∈ ms,match x with | .tok m=>m.a≤B | .err p _=>p≤B
theorem lexes_in:∀ (n:Nat) (l:List UInt8) (p:Nat),l.length≤n→LxIn (p+l.length) (lexes l p)
 | n,l,p,hn=>by
   have hbl:=blanks_le l
   rw [lexes_step]
   by_cases h1:(tokB l).e≠0
   ·rw [if_pos h1]
    intro x hx
    simp only [List.mem_singleton] at hx
    subst hx
    show p+blanks l≤_
    omega
   rw [if_neg h1]
   intro x hx
   rw [List.mem_cons] at hx
   rcases hx with rfl | hx
   ·show p+blanks l≤_
    omega
   ·by_cases h2:(tokB l).k=11
    ·rw [if_pos h2] at hx;simp at hx
    ·rw [if_neg h2] at hx
     have h0:(tokB l).e=0:=by simpa using h1
     have hne:l.drop (blanks l)≠[]:=fun e=>h2 ((tok_end h0).2 e)
     obtain ⟨k1,k2,_⟩:=tokP_ok hne h0
     have j2:(tokB l).len≤l.length - blanks l:=by rw [List.length_drop] at k2;exact k2
     have j1:1≤(tokB l).len:=k1
     match n,hn with
     | 0,hn=>omega
     | n+1,hn =>
       have:=lexes_in n (l.drop (blanks l+(tokB l).len)) (p+blanks l+(tokB l).len) (by rw [List.length_drop];omega) x hx
       rw [List.length_drop] at this
       have ee:p+blanks l+(tokB l).len+(l.length - (blanks l+(tokB l).len))=p+l.length:=by omega
       rw [ee] at this
       exact this
/-! A front of a text. -/
end
section
open Go.RowKit
def ValCount (val:Mk→List Lx→Nat→PR JV):Prop:=∀ m ms c v ms' c',val m ms c=.ok v ms' c'→c<c'∧c'≤8192
theorem items_count {val:Mk→List Lx→Nat→PR JV} (hv:ValCount val):∀ (f:Nat) (m:Mk) (ms:List Lx) (c:Nat) (acc:List JV) (v:JV) (ms':List Lx) (c':Nat),itemsP val f m ms c acc=.ok v ms' c'→c<c'∧c'≤8192
 | 0,m,ms,c,acc,v,ms',c',h=>by simp [itemsP] at h
 | f+1,m,ms,c,acc,v,ms',c',h=>by
   rw [itemsP] at h
   cases hval:val m ms c with
   | bad p e=>rw [hval] at h;simp at h
   | ok u ms1 c1 =>
     rw [hval] at h
     have hc:=hv m ms c u ms1 c1 hval
     simp only [moreP] at h
     obtain ⟨m2,r2,ee,h'⟩:=nextL_ok h
     clear h
     by_cases k4:m2.k=4
     ·rw [if_pos k4] at h'
      simp only [PR.ok.injEq] at h'
      omega
     ·rw [if_neg k4] at h'
      by_cases k5:m2.k=5
      ·rw [if_pos k5] at h'
       obtain ⟨m3,r3,ee3,h⟩:=nextL_ok h'
       have:=items_count hv f m3 r3 c1 _ v ms' c' h
       omega
      ·rw [if_neg k5] at h'
       simp at h'
theorem members_count {val:Mk→List Lx→Nat→PR JV} (hv:ValCount val):∀ (f:Nat) (m:Mk) (ms:List Lx) (c:Nat) (acc:List Mem) (v:JV) (ms':List Lx) (c':Nat),membersP val f m ms c acc=.ok v ms' c'→c<c'∧c'≤8192
 | 0,m,ms,c,acc,v,ms',c',h=>by simp [membersP] at h
 | f+1,m,ms,c,acc,v,ms',c',h=>by
   rw [membersP] at h
   by_cases h10:m.k≠10
   ·rw [if_pos h10] at h;simp at h
   rw [if_neg h10] at h
   by_cases hn:hasN acc m.name=true
   ·rw [if_pos hn] at h;simp at h
   rw [if_neg hn] at h
   obtain ⟨m2,r2,ee,h'⟩:=nextL_ok h
   clear h
   by_cases h6:m2.k≠6
   ·rw [if_pos h6] at h';simp at h'
   rw [if_neg h6] at h'
   obtain ⟨m3,r3,ee3,h⟩:=nextL_ok h'
   clear h'
   cases hval:val m3 r3 c with
   | bad p e=>rw [hval] at h;simp at h
   | ok u ms1 c1 =>
     rw [hval] at h
     have hc:=hv m3 r3 c u ms1 c1 hval
     simp only [moreP] at h
     obtain ⟨m4,r4,ee4,h'⟩:=nextL_ok h
     clear h
     by_cases k2:m4.k=2
     ·rw [if_pos k2] at h'
      simp only [PR.ok.injEq] at h'
      omega
     ·rw [if_neg k2] at h'
      by_cases k5:m4.k=5
      ·rw [if_pos k5] at h'
       obtain ⟨m5,r5,ee5,h⟩:=nextL_ok h'
       have:=members_count hv f m5 r5 c1 _ v ms' c' h
       omega
      ·rw [if_neg k5] at h'
       simp at h'
theorem list_count {val:Mk→List Lx→Nat→PR JV} (hv:ValCount val) {ms:List Lx} {c:Nat} {v:JV} {ms':List Lx} {c':Nat} (hc:c≤8192) (h:listP val ms c=.ok v ms' c'):c≤c'∧c'≤8192:=by
 unfold listP at h
 obtain ⟨m,r,ee,h'⟩:=nextL_ok h
 by_cases k4:m.k=4
 ·rw [if_pos k4] at h'
  simp only [PR.ok.injEq] at h'
  omega
 ·rw [if_neg k4] at h'
  have:=items_count hv _ m r c _ v ms' c' h'
  omega
theorem obj_count {val:Mk→List Lx→Nat→PR JV} (hv:ValCount val) {ms:List Lx} {c:Nat} {v:JV} {ms':List Lx} {c':Nat} (hc:c≤8192) (h:objP val ms c=.ok v ms' c'):c≤c'∧c'≤8192:=by
 unfold objP at h
 obtain ⟨m,r,ee,h'⟩:=nextL_ok h
 by_cases k4:m.k=2
 ·rw [if_pos k4] at h'
  simp only [PR.ok.injEq] at h'
  omega
 ·rw [if_neg k4] at h'
  have:=members_count hv _ m r c _ v ms' c' h'
  omega
theorem val_count:∀ d,ValCount (valP d)
 | 0=>fun m ms c v ms' c' h=>by
   rw [valP] at h
   by_cases h1:begV m=false
   ·rw [if_pos h1] at h;simp at h
   by_cases h2:8192≤c
   ·rw [if_neg h1,if_pos h2] at h;simp at h
   by_cases h3:m.k≠1∧m.k≠3
   ·rw [if_neg h1,if_neg h2,if_pos h3] at h
    simp only [PR.ok.injEq] at h
    omega
   ·rw [if_neg h1,if_neg h2,if_neg h3] at h;simp at h
 | d+1=>fun m ms c v ms' c' h=>by
   rw [valP] at h
   by_cases h1:begV m=false
   ·rw [if_pos h1] at h;simp at h
   by_cases h2:8192≤c
   ·rw [if_neg h1,if_pos h2] at h;simp at h
   by_cases h3:m.k≠1∧m.k≠3
   ·rw [if_neg h1,if_neg h2,if_pos h3] at h
    simp only [PR.ok.injEq] at h
    omega
   ·rw [if_neg h1,if_neg h2,if_neg h3] at h
    by_cases h4:m.k=3
    ·rw [if_pos h4] at h
     have:=list_count (val_count d) (by omega) h
     omega
    ·rw [if_neg h4] at h
     have:=obj_count (val_count d) (by omega) h
     omega
end
section
open Go.RowKit
theorem bl_irrefl:∀ x:List UInt8,Op.bytesLess x x=false
 | []=>rfl
 | a :: x=>by
   rw [Op.bytesLess,bl_irrefl x]
   simp
theorem bl_cases (a:UInt8) (x:List UInt8) (b:UInt8) (y:List UInt8):Op.bytesLess (a :: x) (b :: y)=true↔a.toNat<b.toNat∨(a.toNat=b.toNat∧Op.bytesLess x y=true):=by
 rw [Op.bytesLess]
 simp only [Bool.or_eq_true,decide_eq_true_eq,Bool.and_eq_true,beq_iff_eq,UInt8.lt_iff_toNat_lt,← UInt8.toNat_inj]
theorem bl_trans:∀ x y z:List UInt8,Op.bytesLess x y=true→Op.bytesLess y z=true→Op.bytesLess x z=true
 | _,[],_,h,_=>by simp [Op.bytesLess] at h
 | _,_ :: _,[],_,h=>by simp [Op.bytesLess] at h
 | [],_ :: _,_ :: _,_,_=>rfl
 | a :: x,b :: y,c :: z,h1,h2=>by
   rw [bl_cases] at h1 h2 ⊢
   rcases h1 with h1 | ⟨h1,h1'⟩
   ·rcases h2 with h2 | ⟨h2,h2'⟩
    ·exact Or.inl (by omega)
    ·exact Or.inl (by omega)
   ·rcases h2 with h2 | ⟨h2,h2'⟩
    ·exact Or.inl (by omega)
    ·exact Or.inr ⟨by omega,bl_trans x y z h1' h2'⟩
theorem bl_total:∀ x y:List UInt8,Op.bytesLess x y=false→Op.bytesLess y x=false→x=y
 | [],[],_,_=>rfl
 | [],_ :: _,h,_=>by simp [Op.bytesLess] at h
 | _ :: _,[],_,h=>by simp [Op.bytesLess] at h
 | a :: x,b :: y,h1,h2=>by
   have g1:¬ Op.bytesLess (a :: x) (b :: y)=true:=by rw [h1];decide
   have g2:¬ Op.bytesLess (b :: y) (a :: x)=true:=by rw [h2];decide
   rw [bl_cases] at g1 g2
   have e:a.toNat=b.toNat:=by omega
   have ea:a=b:=UInt8.toNat_inj.1 e
   subst ea
   rw [bl_total x y (by simpa using fun h=>g1 (Or.inr ⟨rfl,h⟩)) (by simpa using fun h=>g2 (Or.inr ⟨rfl,h⟩))]
theorem bl_asymm {x y:List UInt8} (h:Op.bytesLess x y=true):Op.bytesLess y x=false:=by
 cases h2:Op.bytesLess y x with
 | false=>rfl
 | true =>
   have:=bl_trans x y x h h2
   rw [bl_irrefl] at this
   cases this
theorem bl_ntrans (x y z:List UInt8) (h1:Op.bytesLess x y=false) (h2:Op.bytesLess y z=false):Op.bytesLess x z=false:=by
 cases h3:Op.bytesLess x z with
 | false=>rfl
 | true =>
   cases h4:Op.bytesLess y x with
   | true =>
     have:=bl_trans y x z h4 h3
     rw [h2] at this
     cases this
   | false =>
     have:=bl_total x y h1 h4
     subst this
     rw [h2] at h3
     cases h3
theorem compare_bl:∀ x y:List UInt8,decide (Lib.compareBytes x y<0)=Op.bytesLess x y
 | [],[]=>rfl
 | [],_ :: _=>rfl
 | _ :: _,[]=>rfl
 | a :: x,b :: y=>by
   rw [Lib.compareBytes]
   by_cases h1:a<b
   ·rw [if_pos h1,(bl_cases a x b y).2 (Or.inl (UInt8.lt_iff_toNat_lt.1 h1))];rfl
   ·rw [if_neg h1]
    have g1:¬ a.toNat<b.toNat:=fun h=>h1 (UInt8.lt_iff_toNat_lt.2 h)
    by_cases h2:b<a
    ·have g2:=UInt8.lt_iff_toNat_lt.1 h2
     rw [if_pos h2]
     cases h3:Op.bytesLess (a :: x) (b :: y) with
     | false=>rfl
     | true=>rw [bl_cases] at h3;omega
    ·have g2:¬ b.toNat<a.toNat:=fun h=>h2 (UInt8.lt_iff_toNat_lt.2 h)
     rw [if_neg h2,compare_bl x y]
     cases h3:Op.bytesLess x y with
     | true=>rw [(bl_cases a x b y).2 (Or.inr ⟨by omega,h3⟩)]
     | false =>
       cases h4:Op.bytesLess (a :: x) (b :: y) with
       | false=>rfl
       | true =>
         rw [bl_cases] at h4
         rcases h4 with h4 | ⟨-,h4⟩
         ·exact absurd h4 g1
         ·rw [h3] at h4;cases h4
theorem nmLt_eq (a b:ByteArray):nmLt a b=Op.bytesLess a.data.toList b.data.toList:=by unfold nmLt;rw [toList_data,toList_data]
theorem insM_perm (x:Mem):∀ l:List Mem,(insM x l).Perm (x :: l)
 | []=>List.Perm.refl _
 | y :: r=>by
   rw [insM]
   by_cases h:nmLt y.1 x.1=true
   ·rw [if_pos h]
    exact ((insM_perm x r).cons y).trans (List.Perm.swap x y r)
   ·rw [if_neg h]
theorem sortGo_perm:∀ (l acc:List Mem),(l.foldl (fun acc x=>insM x acc) acc).Perm (acc++l)
 | [],acc=>by simp
 | x :: l,acc=>by
   refine (sortGo_perm l (insM x acc)).trans ?_
   refine ((insM_perm x acc).append_right l).trans ?_
   exact List.perm_middle.symm
theorem sortM_perm (l:List Mem):(sortM l).Perm l:=by simpa [sortM] using sortGo_perm l []
def MemLe (a b:Mem):Prop:=nmLt b.1 a.1=false
theorem insM_sorted (x:Mem):∀ l:List Mem,l.Pairwise MemLe→(insM x l).Pairwise MemLe
 | [],_=>by simp [insM]
 | y :: r,h=>by
   rw [List.pairwise_cons] at h
   rw [insM]
   by_cases hl:nmLt y.1 x.1=true
   ·rw [if_pos hl,List.pairwise_cons]
    refine ⟨fun z hz=>?_,insM_sorted x r h.2⟩
    have hz':=(insM_perm x r).mem_iff.1 hz
    rw [List.mem_cons] at hz'
    rcases hz' with rfl | hz'
    ·unfold MemLe
     rw [nmLt_eq] at hl ⊢
     exact bl_asymm hl
    ·exact h.1 z hz'
   ·rw [if_neg hl,List.pairwise_cons,List.pairwise_cons]
    have hxy:MemLe x y:=by unfold MemLe;simpa using hl
    refine ⟨fun z hz=>?_,h⟩
    rw [List.mem_cons] at hz
    rcases hz with rfl | hz
    ·exact hxy
    ·have:=h.1 z hz
     unfold MemLe at this hxy ⊢
     rw [nmLt_eq] at *
     exact bl_ntrans _ _ _ this hxy
theorem sortGo_sorted:∀ (l acc:List Mem),acc.Pairwise MemLe→(l.foldl (fun acc x=>insM x acc) acc).Pairwise MemLe
 | [],_acc,h=>h
 | x :: l,acc,h=>sortGo_sorted l (insM x acc) (insM_sorted x acc h)
theorem sortM_sorted (l:List Mem):(sortM l).Pairwise MemLe:=sortGo_sorted l [] List.Pairwise.nil
def Apart (l:List Mem):Prop:=l.Pairwise fun a b=>a.1.data.toList≠b.1.data.toList
theorem apart_eq:∀ (l:List Mem),Apart l→∀ a b,a ∈ l→b ∈ l→a.1.data.toList=b.1.data.toList→a=b
 | [],_,a,b,ha,_,_=>by simp at ha
 | x :: l,h,a,b,ha,hb,e=>by
   unfold Apart at h
   rw [List.pairwise_cons] at h
   rw [List.mem_cons] at ha hb
   rcases ha with rfl | ha
   ·rcases hb with rfl | hb
    ·rfl
    ·exact absurd e (h.1 b hb)
   ·rcases hb with rfl | hb
    ·exact absurd e.symm (h.1 a ha)
    ·exact apart_eq l h.2 a b ha hb e
theorem sorted_one {l l':List Mem} (hd:Apart l) (hp:l'.Perm l) (hs:l'.Pairwise MemLe):l'=sortM l:=by
 refine List.Perm.eq_of_pairwise (le:=MemLe) (fun a b ha hb h1 h2=>?_) hs (sortM_sorted l) (hp.trans (sortM_perm l).symm)
 refine apart_eq l hd a b (hp.mem_iff.1 ha) ((sortM_perm l).mem_iff.1 hb) ?_
 unfold MemLe at h1 h2
 rw [nmLt_eq] at h1 h2
 exact bl_total _ _ h2 h1
theorem apart_snoc {acc:List Mem} {x:Mem} (h:Apart acc) (hn:hasN acc x.1=false):Apart (acc++[x]):=by
 unfold Apart
 rw [List.pairwise_append]
 refine ⟨h,by simp,fun a ha b hb=>?_⟩
 simp only [List.mem_singleton] at hb
 subst hb
 unfold hasN at hn
 rw [List.any_eq_false] at hn
 simpa using hn a ha
end
end Go.Proofs.YtchinankclckjaaGreatDoor
