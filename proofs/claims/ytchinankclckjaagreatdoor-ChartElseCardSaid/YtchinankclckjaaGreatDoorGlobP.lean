/-
 Patterns plainly: what a pattern stands for; the program's stars (the last one made longer); the document's places.
-/
import Derived.WalkKit
namespace Go.Proofs.YtchinankclckjaaGreatDoor
def gOne (p r:Int):Bool:=if p=63 then r != 47 else p == r
def gStar (f:List Int→Bool):List Int→Bool
 | []=>f []
 | c :: s=>f (c :: s) || (c != 47 && gStar f s)
def gM:List Int→List Int→Bool
 | [],s=>s.isEmpty
 | a :: p,s=>if a=42 then gStar (gM p) s else
   match s with
   | []=>false
   | c :: s=>gOne a c && gM p s
theorem gM_star (p s:List Int):gM (42 :: p) s=gStar (gM p) s:=by cases s <;> rw [gM] <;> rfl
theorem gM_one {a:Int} (h:a≠42) (p:List Int) (c:Int) (s:List Int):gM (a :: p) (c :: s)=(gOne a c && gM p s):=by rw [gM,if_neg h]
theorem gM_end {a:Int} (h:a≠42) (p:List Int):gM (a :: p) []=false:=by rw [gM,if_neg h]
theorem gStar_iff (f:List Int→Bool):∀ t:List Int,gStar f t=true↔∃ d,(∀ x,x<d→∃ c,t[x]?=some c∧c≠47)∧f (t.drop d)=true
 | []=>by
   rw [gStar]
   constructor
   ·exact fun h=>⟨0,fun x hx=>by omega,h⟩
   ·rintro ⟨d,-,h⟩
    simpa using h
 | c :: s=>by
   rw [gStar,Bool.or_eq_true,Bool.and_eq_true,gStar_iff f s,bne_iff_ne]
   constructor
   ·rintro (h | ⟨h1,d,h2,h3⟩)
    ·exact ⟨0,fun x hx=>by omega,h⟩
    ·refine ⟨d+1,fun x hx=>?_,h3⟩
     cases x with
     | zero=>exact ⟨c,rfl,h1⟩
     | succ x=>exact h2 x (by omega)
   ·rintro ⟨d,h1,h2⟩
    cases d with
    | zero=>exact Or.inl h2
    | succ d =>
      obtain ⟨c',e,h3⟩:=h1 0 (by omega)
      simp only [List.getElem?_cons_zero,Option.some.injEq] at e
      subst e
      exact Or.inr ⟨h3,d,fun x hx=>by simpa using h1 (x+1) (by omega),h2⟩
theorem gM_seg:∀ (seg q u:List Int),(∀ a ∈ seg,a≠42)→gM (seg++q) u=true→(∀ (o:Nat) (a:Int),seg[o]?=some a→∃ c,u[o]?=some c∧gOne a c=true)∧gM q (u.drop seg.length)=true
 | [],q,u,_,h=>⟨fun o a h=>by simp at h,h⟩
 | a :: seg,q,u,hn,h=>by
   have ha:=hn a (by simp)
   cases u with
   | nil=>rw [List.cons_append,gM_end ha] at h;cases h
   | cons c u =>
     rw [List.cons_append,gM_one ha,Bool.and_eq_true] at h
     obtain ⟨h1,h2⟩:=gM_seg seg q u (fun b hb=>hn b (by simp [hb])) h.2
     refine ⟨fun o b hb=>?_,h2⟩
     cases o with
     | zero =>
       simp only [List.getElem?_cons_zero,Option.some.injEq] at hb
       subst hb
       exact ⟨c,rfl,h.1⟩
     | succ o=>exact h1 o b (by simpa using hb)
theorem gOne_slash {a:Int} (h:gOne a 47=true):a=47:=by
 unfold gOne at h
 split at h
 ·cases h
 ·exact beq_iff_eq.1 h
theorem gOne_of_slash {c:Int} (h:gOne 47 c=true):c=47:=by
 unfold gOne at h
 rw [if_neg (by decide)] at h
 exact (beq_iff_eq.1 h).symm
theorem gLater {seg q t:List Int} (hn:∀ a ∈ seg,a≠42) (hA:∀ (o:Nat) (a:Int),seg[o]?=some a→∃ c,t[o]?=some c∧gOne a c=true) {c:Int} {r:List Int} (ht:t=c :: r) (hc:c≠47) (h:gStar (gM (seg++42 :: q)) r=true):gM (42 :: q) (t.drop seg.length)=true:=by
 obtain ⟨d,h1,h2⟩:=(gStar_iff _ _).1 h
 have hC:∀ x,x<d+1→∃ c,t[x]?=some c∧c≠47:=fun x hx=>by
  rw [ht]
  cases x with
  | zero=>exact ⟨c,rfl,hc⟩
  | succ x=>simpa using h1 x (by omega)
 have hd:r.drop d=t.drop (d+1):=by rw [ht];rfl
 rw [hd] at h2
 obtain ⟨h3,h4⟩:=gM_seg seg (42 :: q) _ hn h2
 rw [List.drop_drop] at h4
 have hY:∀ N y,y<N→y<seg.length+(d+1)→t[y]?≠some 47:=by
  intro N
  induction N with
  | zero=>intro y hy;omega
  | succ N ih =>
    intro y hy hlt e
    by_cases hyd:y<d+1
    ·obtain ⟨c',e',hne⟩:=hC y hyd
     rw [e] at e'
     exact hne (Option.some.inj e').symm
    ·obtain ⟨a,ha⟩:∃ a,seg[y - (d+1)]?=some a:=⟨_,List.getElem?_eq_getElem (by omega)⟩
     obtain ⟨c',e1,e2⟩:=h3 _ a ha
     rw [List.getElem?_drop,show d+1+(y - (d+1))=y by omega,e] at e1
     cases e1
     have ha7:=gOne_slash e2
     subst ha7
     obtain ⟨c2,e3,e4⟩:=hA _ _ ha
     rw [gOne_of_slash e4] at e3
     exact ih _ (by omega) (by omega) e3
 rw [gM_star] at h4 ⊢
 obtain ⟨e,h5,h6⟩:=(gStar_iff _ _).1 h4
 have hlen:∀ x,x<d+1→∃ c,t[seg.length+x]?=some c∧c≠47:=fun x hx=>by
  have hne:=hY _ (seg.length+x) (Nat.lt_succ_self _) (by omega)
  cases hx2:t[seg.length+x]? with
  | some c'=>exact ⟨c',rfl,fun e=>hne (by rw [hx2,e])⟩
  | none =>
    exfalso
    have hle:=List.getElem?_eq_none_iff.1 hx2
    by_cases hs:seg.length=0
    ·obtain ⟨c',e1,-⟩:=hC x hx
     rw [hs,Nat.zero_add] at hx2
     rw [hx2] at e1
     cases e1
    ·obtain ⟨a,ha⟩:∃ a,seg[seg.length - 1]?=some a:=⟨_,List.getElem?_eq_getElem (by omega)⟩
     obtain ⟨c',e1,-⟩:=h3 _ a ha
     rw [List.getElem?_drop] at e1
     have:=(List.getElem?_eq_some_iff.1 e1).1
     omega
 refine (gStar_iff _ _).2 ⟨d+1+e,fun x hx=>?_,?_⟩
 ·rw [List.getElem?_drop]
  by_cases hxd:x<d+1
  ·exact hlen x hxd
  ·have:=h5 (x - (d+1)) (by omega)
   rwa [List.getElem?_drop,show d+1+seg.length+(x - (d+1))=seg.length+x by omega] at this
 ·rw [List.drop_drop] at h6 ⊢
  rwa [show seg.length+(d+1+e)=d+1+seg.length+e by omega]
/-! The program's way: the last star that was met is made longer. -/
def gWait (p s:List Int) (k f:Nat):Bool:=match s.drop f with
 | []=>false
 | c :: r=>c != 47 && gStar (gM (p.drop (k+1))) r
structure GSt (p s:List Int) (i j:Nat) (st:Option (Nat × Nat)):Prop where
 ip:i≤p.length
 js:j≤s.length
 atNone:st=none→gM p s=gM (p.drop i) (s.drop j)
 atSome:∀ k f,st=some (k,f)→p[k]?=some 42∧k+1≤i∧f≤j∧i - (k+1)=j - f∧(∀ o,o<j - f→∃ a c,p[k+1+o]?=some a∧s[f+o]?=some c∧a≠42∧gOne a c=true)∧gM p s=(gM (p.drop i) (s.drop j) || gWait p s k f)
theorem GSt.start (p s:List Int):GSt p s 0 0 none:=⟨Nat.zero_le _,Nat.zero_le _,fun _=>rfl,fun k f h=>by cases h⟩
theorem GSt.done {p s:List Int} {st:Option (Nat × Nat)} (h:GSt p s p.length s.length st):gM p s=true:=by
 cases st with
 | none=>rw [h.atNone rfl,List.drop_length,List.drop_length];rfl
 | some x =>
   obtain ⟨-,-,-,-,-,e⟩:=h.atSome x.1 x.2 rfl
   rw [e,List.drop_length,List.drop_length]
   rfl
theorem drop_atG {l:List Int} {i:Nat} {a:Int} (h:l[i]?=some a):l.drop i=a :: l.drop (i+1):=by
 obtain ⟨h1,h2⟩:=List.getElem?_eq_some_iff.1 h
 rw [List.drop_eq_getElem_cons h1,h2]
theorem gWait_star (p s:List Int) (i j:Nat):gStar (gM (p.drop (i+1))) (s.drop j)=(gM (p.drop (i+1)) (s.drop j) || gWait p s i j):=by
 unfold gWait
 cases h:s.drop j with
 | nil=>rw [gStar];simp
 | cons c r=>rw [gStar]
theorem GSt.star {p s:List Int} {i j:Nat} {st:Option (Nat × Nat)} (h:GSt p s i j st) (hi:p[i]?=some 42):GSt p s (i+1) j (some (i,j)):=by
 have hil:=(List.getElem?_eq_some_iff.1 hi).1
 refine ⟨hil,h.js,fun e=>(by cases e),fun k f e=>?_⟩
 cases e
 refine ⟨hi,Nat.le_refl _,Nat.le_refl _,by omega,fun o ho=>by omega,?_⟩
 have hd:gM (p.drop i) (s.drop j)=(gM (p.drop (i+1)) (s.drop j) || gWait p s i j):=by
  rw [drop_atG hi,gM_star,gWait_star]
 cases st with
 | none=>rw [h.atNone rfl,hd]
 | some x =>
   obtain ⟨k,f⟩:=x
   obtain ⟨hk,hki,hfj,he,hseg,hr⟩:=h.atSome k f rfl
   rw [hr,← hd]
   cases hw:gWait p s k f with
   | false=>rw [Bool.or_false]
   | true =>
     rw [Bool.or_true]
     symm
     unfold gWait at hw
     cases ht:s.drop f with
     | nil=>rw [ht] at hw;cases hw
     | cons c r =>
       rw [ht] at hw
       simp only [Bool.and_eq_true,bne_iff_ne] at hw
       have hp:p.drop (k+1)=(p.drop (k+1)).take (j - f)++42 :: p.drop (i+1):=by
        rw [← drop_atG hi]
        conv=>lhs;rw [← List.take_append_drop (j - f) (p.drop (k+1))]
        rw [List.drop_drop,show k+1+(j - f)=i by omega]
       have hl:((p.drop (k+1)).take (j - f)).length=j - f:=by
        rw [List.length_take,List.length_drop];omega
       have hget:∀ o a,((p.drop (k+1)).take (j - f))[o]?=some a→o<j - f∧p[k+1+o]?=some a:=fun o a ho=>by
        have h1:=(List.getElem?_eq_some_iff.1 ho).1
        rw [hl] at h1
        rw [List.getElem?_take_of_lt h1,List.getElem?_drop] at ho
        exact ⟨h1,ho⟩
       rw [hp] at hw
       have h3:=gLater (t:=s.drop f) (fun a ha=>by
        obtain ⟨o,ho⟩:=List.getElem?_of_mem ha
        obtain ⟨h1,h2⟩:=hget o a ho
        obtain ⟨a',c',e1,-,e2,-⟩:=hseg o h1
        rw [h2] at e1
        cases e1
        exact e2) (fun o a ho=>by
        obtain ⟨h1,h2⟩:=hget o a ho
        obtain ⟨a',c',e1,e2,-,e3⟩:=hseg o h1
        rw [h2] at e1
        cases e1
        exact ⟨c',by rw [List.getElem?_drop];exact e2,e3⟩) ht hw.1 hw.2
       rw [hl,List.drop_drop,show f+(j - f)=j by omega] at h3
       rw [drop_atG hi]
       exact h3
theorem GSt.one {p s:List Int} {i j:Nat} {st:Option (Nat × Nat)} (h:GSt p s i j st) {a c:Int} (hi:p[i]?=some a) (hj:s[j]?=some c) (ha:a≠42) (ho:gOne a c=true):GSt p s (i+1) (j+1) st:=by
 have hil:=(List.getElem?_eq_some_iff.1 hi).1
 have hjl:=(List.getElem?_eq_some_iff.1 hj).1
 have hd:gM (p.drop i) (s.drop j)=gM (p.drop (i+1)) (s.drop (j+1)):=by
  rw [drop_atG hi,drop_atG hj,gM_one ha,ho,Bool.true_and]
 refine ⟨hil,hjl,fun e=>by rw [h.atNone e,hd],fun k f e=>?_⟩
 obtain ⟨hk,hki,hfj,he,hseg,hr⟩:=h.atSome k f e
 refine ⟨hk,by omega,by omega,by omega,fun o hol=>?_,by rw [hr,hd]⟩
 by_cases hoj:o<j - f
 ·exact hseg o hoj
 ·obtain rfl:o=j - f:=by omega
  exact ⟨a,c,by rw [show k+1+(j - f)=i by omega];exact hi,by rw [show f+(j - f)=j by omega];exact hj,ha,ho⟩
def GNo (p s:List Int) (i j:Nat):Prop:=¬ (i=p.length∧j=s.length)∧p[i]?≠some 42∧∀ a c,p[i]?=some a→s[j]?=some c→gOne a c=false
theorem GSt.no {p s:List Int} {i j:Nat} {st:Option (Nat × Nat)} (h:GSt p s i j st) (hno:GNo p s i j):gM (p.drop i) (s.drop j)=false:=by
 obtain ⟨h1,h2,h3⟩:=hno
 cases hp:p[i]? with
 | none =>
   have hil:i=p.length:=by have:=List.getElem?_eq_none_iff.1 hp;have:=h.ip;omega
   cases hs:s[j]? with
   | none=>exact absurd ⟨hil,by have:=List.getElem?_eq_none_iff.1 hs;have:=h.js;omega⟩ h1
   | some c=>rw [hil,List.drop_length,drop_atG hs];rfl
 | some a =>
   have ha:a≠42:=fun e=>h2 (by rw [hp,e])
   cases hs:s[j]? with
   | none=>rw [drop_atG hp,List.drop_eq_nil_of_le (List.getElem?_eq_none_iff.1 hs),gM_end ha]
   | some c=>rw [drop_atG hp,drop_atG hs,gM_one ha,h3 a c hp hs,Bool.false_and]
theorem GSt.fail_none {p s:List Int} {i j:Nat} (h:GSt p s i j none) (hno:GNo p s i j):gM p s=false:=by rw [h.atNone rfl,h.no hno]
theorem GSt.fail_end {p s:List Int} {i j k f:Nat} (h:GSt p s i j (some (k,f))) (hno:GNo p s i j) (hf:s[f]?=none∨s[f]?=some 47):gM p s=false:=by
 obtain ⟨-,-,-,-,-,hr⟩:=h.atSome k f rfl
 rw [hr,h.no hno,Bool.false_or]
 unfold gWait
 rcases hf with hf | hf
 ·rw [List.drop_eq_nil_of_le (List.getElem?_eq_none_iff.1 hf)]
 ·rw [drop_atG hf];rfl
theorem GSt.again {p s:List Int} {i j k f:Nat} (h:GSt p s i j (some (k,f))) (hno:GNo p s i j) {c:Int} (hf:s[f]?=some c) (hc:c≠47):GSt p s (k+1) (f+1) (some (k,f+1)):=by
 obtain ⟨hk,hki,hfj,he,-,hr⟩:=h.atSome k f rfl
 have hfl:=(List.getElem?_eq_some_iff.1 hf).1
 refine ⟨(List.getElem?_eq_some_iff.1 hk).1,hfl,fun e=>(by cases e),fun k' f' e=>?_⟩
 cases e
 refine ⟨hk,Nat.le_refl _,Nat.le_refl _,by omega,fun o ho=>by omega,?_⟩
 rw [hr,h.no hno,Bool.false_or,← gWait_star]
 conv=>lhs;unfold gWait
 rw [drop_atG hf]
 have:(c != 47)=true:=bne_iff_ne.2 hc
 simp only [this,Bool.true_and]
/-! The document's way: all places of the pattern at once. -/
end Go.Proofs.YtchinankclckjaaGreatDoor
