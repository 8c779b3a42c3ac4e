/-
  glob.one, match, Match, First, Any; chart.Matches: what the program's patterns stand for.
  chart.For: the mappings for a path, in new memory.
-/
import Derived.Test.YtchinankclckjaaGreatDoorChartA
import Derived.Test.YtchinankclckjaaGreatDoorGlobP
import Derived.LoopTactic
import Derived.WalkMore
import Derived.ScopeJumps
import Derived.Laws.IdiomStrings
import Derived.Test.YtchinankclckjaaGreatDoorChartD
import Derived.Test.YtchinankclckjaaGreatDoorChartV
import Derived.Maps.AppendAt
namespace Go.Proofs.YtchinankclckjaaGreatDoor
set_option maxHeartbeats 16000000
section
set_option maxRecDepth 100000
open Go.RowKit
def runeGo (s:ByteArray):Nat→Nat→List Int
 | 0,_=>[]
 | b+1,i=>if i<s.size then Int.ofNat (Utf8.decode s i).1 :: runeGo s b (i+(Utf8.decode s i).2) else []
def runesL (s:ByteArray):List Int:=runeGo s s.size 0
theorem runesFrom_eq (s:ByteArray):∀ (b i:Nat) (acc:Array Value),Conv.runesFrom s b i acc=acc++((runeGo s b i).map (Value.int .i32)).toArray
 | 0,i,acc=>by simp [Conv.runesFrom,runeGo]
 | b+1,i,acc=>by
   rw [Conv.runesFrom,runeGo]
   by_cases h:i<s.size
   ·rw [if_pos h,if_pos h]
    simp only
    rw [runesFrom_eq s b]
    simp
   ·rw [if_neg h,if_neg h]
    simp
theorem runeGo_len (s:ByteArray):∀ (b i:Nat),(runeGo s b i).length≤b
 | 0,i=>by simp [runeGo]
 | b+1,i=>by
   rw [runeGo]
   by_cases h:i<s.size
   ·rw [if_pos h]
    have:=runeGo_len s b (i+(Utf8.decode s i).2)
    simp only [List.length_cons]
    omega
   ·rw [if_neg h]
    simp
def hitB (a p:ByteArray):Bool:=pathB a && pathB p && gM (runesL a) (runesL p)
theorem one_any (p r:Int) (w:World):Calls Tryz.prog 149 #[.int .i32 p,.int .i32 r] w fun e w'=>e=.returned (.bool (gOne p r))∧w'=w:=by
 unfold gOne
 by_cases h:p=63
 ·rw [if_pos h]
  have e1:(p == 63)=true:=beq_iff_eq.2 h
  clear h
  go_enter Tryz.func149,Tryz.ntmps149
  go_wp2_with fail
  go_ret
  exact ⟨rfl,rfl⟩
 ·rw [if_neg h]
  have e1:(p == 63)=false:=beq_eq_false_iff_ne.2 h
  clear h
  go_enter Tryz.func149,Tryz.ntmps149
  go_wp2_with fail
  go_ret
  exact ⟨rfl,rfl⟩
theorem wp_scope_from {P:Program} {a:Act} {w:World} {Q:Exit→Act→World→Prop} {c rest:Code} (l:Nat) (J:Act→World→Prop) (μ:Act→World→Nat) (hf:findLabel c l=some (Code.skip.seq rest))
 (first:∀ X:Exit→Act→World→Prop,(∀ a' w',J a' w'→rest.wp P X a' w')→c.wp P X a w)
 (pass:∀ a w,J a w→rest.wp P (Exit.jump l (fun a' w'=>J a' w'∧μ a' w'<μ a w) Q) a w):(Code.scope c).wp P Q a w:=by
 refine wp_scope_jumps l J μ hf (first _ fun a' w' hJ=>?_) fun a w hJ=>wp_seq (wp_skip (pass a w hJ))
 intro b k cs
 obtain ⟨e,a1,w1,hq,har⟩:=pass a' w' hJ b k cs
 refine ⟨e,a1,w1,?_,har⟩
 cases e with
 | goto l'=>exact ⟨hq.1,hq.2.1⟩
 | normal=>exact hq
 | exit id=>exact hq
 | ret=>exact hq
 | panic ch=>exact hq
 | outgrown=>exact hq
def starOf (k:Int) (f:Nat) (st:Option (Nat × Nat)):Prop:=(k = -1∧f=0∧st=none)∨∃ n:Nat,k=n∧st=some (n,f)
def gFrame (p s:List Int) (bp bs P S cp cs:Nat) (w:World) (a':Act) (w':World):Prop :=
 ∃ (q i j f:Nat) (k:Int) (st:Option (Nat × Nat)) (u9 u10 u11 u12 u13 u14 u15 u16 u17 u18 u19 u20 u21 u22 u23 u24 u25 u26 u27 u28 u29 u30 u31 u32 u33 u34 u35 u36 u37 u38 u39 u40 u41 u42 u43 u44 u45 u46 u47 u48 u49 u50 u51 u52 u53 u54 u55 u56 u57 u58 u59 u60 u61 u62 u63 u64 u65 u66 u67 u68 u69 u70 u71 u72 u73 u74 u75 u76 u77 u78:Value),w'=w.drewN q∧starOf k f st∧Hid (GSt p s i j st)∧a' = { tmps:=#[.slice (some ⟨bp,0,none⟩) P cp,.slice (some ⟨bs,0,none⟩) S cs,undef,undef,.bool false,.int .i64 i,.int .i64 j,.int .i64 k,.int .i64 f,u9,u10,u11,u12,u13,u14,u15,u16,u17,u18,u19,u20,u21,u22,u23,u24,u25,u26,u27,u28,u29,u30,u31,u32,u33,u34,u35,u36,u37,u38,u39,u40,u41,u42,u43,u44,u45,u46,u47,u48,u49,u50,u51,u52,u53,u54,u55,u56,u57,u58,u59,u60,u61,u62,u63,u64,u65,u66,u67,u68,u69,u70,u71,u72,u73,u74,u75,u76,u77,u78],defers:=[] }
def gMu (a':Act) (_:World):Nat:=(1000 - (intOf (a'.tmps.getD 7 undef)+1).toNat)*1000000+(1000 - (intOf (a'.tmps.getD 8 undef)).toNat)*1000+(1000 - (intOf (a'.tmps.getD 5 undef)).toNat)
theorem starOf_lt {p s:List Int} {i j f:Nat} {k:Int} {st:Option (Nat × Nat)} (h:starOf k f st) (hg:GSt p s i j st):-1≤k∧k<(p.length:Int)∧f≤s.length∧i≤p.length∧j≤s.length∧(k<(i:Int)):=by
 have h1:=hg.ip
 have h2:=hg.js
 rcases h with ⟨rfl,rfl,rfl⟩ | ⟨n,rfl,rfl⟩
 ·omega
 ·obtain ⟨h3,h4,h5,-⟩:=hg.atSome n f rfl
  have:=(List.getElem?_eq_some_iff.1 h3).1
  omega
set_option maxRecDepth 1000000 in
theorem gMatch_any (p s:List Int) (bp bs P S cp cs:Nat) (w:World) (hP:p.length=P) (hS:s.length=S) (h1:P≤256) (h2:S≤256)
 (hp:∀ i c,p[i]?=some c→w.cell? ⟨bp,i,none⟩=some (.int .i32 c)) (hs:∀ i c,s[i]?=some c→w.cell? ⟨bs,i,none⟩=some (.int .i32 c)) :
 Calls Tryz.prog 131 #[.slice (some ⟨bp,0,none⟩) P cp,.slice (some ⟨bs,0,none⟩) S cs] w fun e w'=>e=.returned (.bool (gM p s))∧∃ m,w'=w.drewN m:=by
 obtain ⟨r,hr⟩:∃ r,gM p s=r:=⟨_,rfl⟩
 rw [hr]
 have HR:=Lib.hid hr
 have HPP:=Lib.hid hP
 have HSS:=Lib.hid hS
 have HPC:=Lib.hid hp
 have HSC:=Lib.hid hs
 clear hr hP hS hp hs
 go_enter Tryz.func131,Tryz.ntmps131
 go_wp2_with fail
 refine wp_scope_from 0 (gFrame p s bp bs P S cp cs w) gMu rfl ?_ ?_
 ·intro X hX
  go_wp2_with fail
  go_step3
  rename_i hK
  refine hK _ _ (hX _ _ ?_)
  exact ⟨0,0,0,0,-1,none,_,_,_,_,_,_,_,_,_,_,_,_,_,_,_,_,_,_,_,_,_,_,_,_,_,_,_,_,_,_,_,_,_,_,_,_,_,_,_,_,_,_,_,_,_,_,_,_,_,_,_,_,_,_,_,_,_,_,_,_,_,_,_,_,_,_,_,_,_,_,rfl,Or.inl ⟨rfl,rfl,rfl⟩,GSt.start p s,rfl⟩
 ·rintro a' w' ⟨q,i,j,f,k,st,u9,u10,u11,u12,u13,u14,u15,u16,u17,u18,u19,u20,u21,u22,u23,u24,u25,u26,u27,u28,u29,u30,u31,u32,u33,u34,u35,u36,u37,u38,u39,u40,u41,u42,u43,u44,u45,u46,u47,u48,u49,u50,u51,u52,u53,u54,u55,u56,u57,u58,u59,u60,u61,u62,u63,u64,u65,u66,u67,u68,u69,u70,u71,u72,u73,u74,u75,u76,u77,u78,rfl,hst,HG,rfl⟩
  obtain ⟨b1,b2,b3,b4,b5,b6⟩:=starOf_lt hst HG.out
  rw [HPP.out] at b2 b4
  rw [HSS.out] at b3 b5
  have i0:(0:Int)≤(i:Int):=by omega
  have j0:(0:Int)≤(j:Int):=by omega
  have HST:=Lib.hid hst
  clear hst
  by_cases hiP:i=P
  ·have e1:((i:Int) == (P:Int))=true:=by rw [hiP];simp
   have d1:¬ (i:Int)<(P:Int):=by omega
   have d1':decide ((i:Int)<(P:Int))=false:=decide_eq_false d1
   have d1n:decide (i<P)=false:=decide_eq_false (by omega)
   by_cases hjS:j=S
   ·have e2:((j:Int) == (S:Int))=true:=by rw [hjS];simp
    obtain rfl:true=r:=by
     have h:=HG.out
     rw [hiP,hjS,← HPP.out,← HSS.out] at h
     rw [← HR.out,h.done]
    clear hiP hjS
    go_wp2_with fail
    simp only [Exit.jump]
    go_ret
    exact ⟨rfl,_,rfl⟩
   ·have e2:((j:Int) == (S:Int))=false:=beq_eq_false_iff_ne.2 (by omega)
    have HNO:Hid (GNo p s i j):=⟨fun h=>hjS (by rw [h.2,HSS.out]),fun h=>by have:=(List.getElem?_eq_some_iff.1 h).1;rw [HPP.out] at this;omega,fun a c ha=>by have:=(List.getElem?_eq_some_iff.1 ha).1;rw [HPP.out] at this;omega⟩
    clear hjS hiP
    go_wp2_with fail
    go_quiet (fail)
    rcases HST.out with ⟨rfl,rfl,rfl⟩ | ⟨n,rfl,rfl⟩
    ·obtain rfl:false=r:=by rw [← HR.out,HG.out.fail_none HNO.out]
     go_wp2_with fail
     simp only [Exit.jump]
     go_ret
     exact ⟨rfl,_,rfl⟩
    ·have n0:¬ (n:Int)<0:=by omega
     have g0:decide ((n:Int)<0)=false:=decide_eq_false n0
     have f0:(0:Int)≤(f:Int):=by omega
     by_cases hfS:f=S
     ·obtain rfl:false=r:=by rw [← HR.out,HG.out.fail_end HNO.out (Or.inl (List.getElem?_eq_none_iff.2 (by rw [HSS.out];omega)))]
      have g1:((f:Int) == (S:Int))=true:=by rw [hfS];simp
      clear hfS
      go_wp2_with fail
      simp only [Exit.jump]
      go_ret
      exact ⟨rfl,_,rfl⟩
     ·have g1:((f:Int) == (S:Int))=false:=beq_eq_false_iff_ne.2 (by omega)
      have f1:(f:Int)<(S:Int):=by omega
      obtain ⟨c,hc⟩:∃ c,s[f]?=some c:=⟨_,List.getElem?_eq_getElem (by rw [HSS.out];omega)⟩
      have hcf:=HSC.out f c hc
      have HCF:=Lib.hid hc
      clear hc hfS
      by_cases h47:c=47
      ·obtain rfl:false=r:=by rw [← HR.out,HG.out.fail_end HNO.out (Or.inr (by rw [HCF.out,h47]))]
       have g2:(c == 47)=true:=beq_iff_eq.2 h47
       clear h47
       go_wp2_with fail
       simp only [Exit.jump]
       go_ret
       exact ⟨rfl,_,rfl⟩
      ·have g2:(c == 47)=false:=beq_eq_false_iff_ne.2 h47
       have HG2:=Lib.hid (HG.out.again HNO.out HCF.out h47)
       have w1:IntKind.i64.wrap ((f:Int)+1)=((f+1:Nat):Int):=by rw [IntWalk.i64_in _ (by omega)];omega
       have w2:IntKind.i64.wrap ((n:Int)+1)=((n+1:Nat):Int):=by rw [IntWalk.i64_in _ (by omega)];omega
       clear h47
       go_wp2_with fail
       go_step3
       (try simp only [w1,w2])
       exact ⟨rfl,⟨_,n+1,f+1,f+1,n,some (n,f+1),_,_,_,_,_,_,_,_,_,_,_,_,_,_,_,_,_,_,_,_,_,_,_,_,_,_,_,_,_,_,_,_,_,_,_,_,_,_,_,_,_,_,_,_,_,_,_,_,_,_,_,_,_,_,_,_,_,_,_,_,_,_,_,_,_,_,_,_,_,_,rfl,Or.inr ⟨n,rfl,rfl⟩,HG2,rfl⟩,by simp [gMu,intOf];omega⟩
  ·have e1:((i:Int) == (P:Int))=false:=beq_eq_false_iff_ne.2 (by omega)
   have d1:(i:Int)<(P:Int):=by omega
   have d1n:decide (i<P)=true:=decide_eq_true (by omega)
   obtain ⟨a,ha⟩:∃ c,p[i]?=some c:=⟨_,List.getElem?_eq_getElem (by rw [HPP.out];omega)⟩
   have hca:=HPC.out i a ha
   have HA:=Lib.hid ha
   clear ha
   by_cases h42:a=42
   ·subst h42
    have HG2:=Lib.hid (HG.out.star HA.out)
    have w1:IntKind.i64.wrap ((i:Int)+1)=((i+1:Nat):Int):=by rw [IntWalk.i64_in _ (by omega)];omega
    clear hiP
    go_wp2_with fail
    go_step3
    (try simp only [w1])
    exact ⟨rfl,⟨_,i+1,j,j,i,some (i,j),_,_,_,_,_,_,_,_,_,_,_,_,_,_,_,_,_,_,_,_,_,_,_,_,_,_,_,_,_,_,_,_,_,_,_,_,_,_,_,_,_,_,_,_,_,_,_,_,_,_,_,_,_,_,_,_,_,_,_,_,_,_,_,_,_,_,_,_,_,_,rfl,Or.inr ⟨i,rfl,rfl⟩,HG2,rfl⟩,by simp [gMu,intOf];omega⟩
   ·have e42:(a == 42)=false:=beq_eq_false_iff_ne.2 h42
    by_cases hjS:j<S
    ·have d2:(j:Int)<(S:Int):=by omega
     have d2n:decide (j<S)=true:=decide_eq_true hjS
     obtain ⟨c,hc⟩:∃ c,s[j]?=some c:=⟨_,List.getElem?_eq_getElem (by rw [HSS.out];omega)⟩
     have hcc:=HSC.out j c hc
     have HC:=Lib.hid hc
     clear hc
     cases ho:gOne a c with
     | true =>
       have HG2:=Lib.hid (HG.out.one HA.out HC.out h42 ho)
       have HO:=Lib.hid (fun W=>one_any a c W)
       rw [ho] at HO
       have w1:IntKind.i64.wrap ((i:Int)+1)=((i+1:Nat):Int):=by rw [IntWalk.i64_in _ (by omega)];omega
       have w2:IntKind.i64.wrap ((j:Int)+1)=((j+1:Nat):Int):=by rw [IntWalk.i64_in _ (by omega)];omega
       clear hiP h42 ho hjS
       go_wp2_with fail
       go_quiet ((go_at_call 149;refine (HO.out _).mono ?_;rintro e w2 ⟨rfl,rfl⟩;exact ⟨rfl,_,rfl⟩))
       go_wp2_with fail
       go_step3
       (try simp only [w1,w2])
       exact ⟨rfl,⟨_,i+1,j+1,f,k,st,_,_,_,_,_,_,_,_,_,_,_,_,_,_,_,_,_,_,_,_,_,_,_,_,_,_,_,_,_,_,_,_,_,_,_,_,_,_,_,_,_,_,_,_,_,_,_,_,_,_,_,_,_,_,_,_,_,_,_,_,_,_,_,_,_,_,_,_,_,_,rfl,HST.out,HG2,rfl⟩,by simp [gMu,intOf];omega⟩
     | false =>
       have HNO:Hid (GNo p s i j):=⟨fun h=>hiP (by rw [h.1,HPP.out]),fun h=>h42 (by rw [HA.out] at h;exact Option.some.inj h),fun a' c' ha' hc'=>by rw [HA.out] at ha';rw [HC.out] at hc';cases ha';cases hc';exact ho⟩
       have HO:=Lib.hid (fun W=>one_any a c W)
       rw [ho] at HO
       clear hiP h42 ho hjS
       go_wp2_with fail
       go_quiet ((go_at_call 149;refine (HO.out _).mono ?_;rintro e w2 ⟨rfl,rfl⟩;exact ⟨rfl,_,rfl⟩))
       rcases HST.out with ⟨rfl,rfl,rfl⟩ | ⟨n,rfl,rfl⟩
       ·obtain rfl:false=r:=by rw [← HR.out,HG.out.fail_none HNO.out]
        go_wp2_with fail
        simp only [Exit.jump]
        go_ret
        exact ⟨rfl,_,rfl⟩
       ·have n0:¬ (n:Int)<0:=by omega
        have g0:decide ((n:Int)<0)=false:=decide_eq_false n0
        have f0:(0:Int)≤(f:Int):=by omega
        by_cases hfS:f=S
        ·obtain rfl:false=r:=by rw [← HR.out,HG.out.fail_end HNO.out (Or.inl (List.getElem?_eq_none_iff.2 (by rw [HSS.out];omega)))]
         have g1:((f:Int) == (S:Int))=true:=by rw [hfS];simp
         clear hfS
         go_wp2_with fail
         simp only [Exit.jump]
         go_ret
         exact ⟨rfl,_,rfl⟩
        ·have g1:((f:Int) == (S:Int))=false:=beq_eq_false_iff_ne.2 (by omega)
         have f1:(f:Int)<(S:Int):=by omega
         obtain ⟨c,hc⟩:∃ c,s[f]?=some c:=⟨_,List.getElem?_eq_getElem (by rw [HSS.out];omega)⟩
         have hcf:=HSC.out f c hc
         have HCF:=Lib.hid hc
         clear hc hfS
         by_cases h47:c=47
         ·obtain rfl:false=r:=by rw [← HR.out,HG.out.fail_end HNO.out (Or.inr (by rw [HCF.out,h47]))]
          have g2:(c == 47)=true:=beq_iff_eq.2 h47
          clear h47
          go_wp2_with fail
          simp only [Exit.jump]
          go_ret
          exact ⟨rfl,_,rfl⟩
         ·have g2:(c == 47)=false:=beq_eq_false_iff_ne.2 h47
          have HG2:=Lib.hid (HG.out.again HNO.out HCF.out h47)
          have w1:IntKind.i64.wrap ((f:Int)+1)=((f+1:Nat):Int):=by rw [IntWalk.i64_in _ (by omega)];omega
          have w2:IntKind.i64.wrap ((n:Int)+1)=((n+1:Nat):Int):=by rw [IntWalk.i64_in _ (by omega)];omega
          clear h47
          go_wp2_with fail
          go_step3
          (try simp only [w1,w2])
          exact ⟨rfl,⟨_,n+1,f+1,f+1,n,some (n,f+1),_,_,_,_,_,_,_,_,_,_,_,_,_,_,_,_,_,_,_,_,_,_,_,_,_,_,_,_,_,_,_,_,_,_,_,_,_,_,_,_,_,_,_,_,_,_,_,_,_,_,_,_,_,_,_,_,_,_,_,_,_,_,_,_,_,_,_,_,_,_,rfl,Or.inr ⟨n,rfl,rfl⟩,HG2,rfl⟩,by simp [gMu,intOf];omega⟩
    ·have d2:¬ (j:Int)<(S:Int):=by omega
     have d2':decide ((j:Int)<(S:Int))=false:=decide_eq_false d2
     have d2n:decide (j<S)=false:=decide_eq_false hjS
     have HNO:Hid (GNo p s i j):=⟨fun h=>hiP (by rw [h.1,HPP.out]),fun h=>h42 (by rw [HA.out] at h;exact Option.some.inj h),fun a' c' _ hc'=>by have:=(List.getElem?_eq_some_iff.1 hc').1;rw [HSS.out] at this;omega⟩
     clear hiP h42 hjS
     go_wp2_with fail
     go_quiet (fail)
     rcases HST.out with ⟨rfl,rfl,rfl⟩ | ⟨n,rfl,rfl⟩
     ·obtain rfl:false=r:=by rw [← HR.out,HG.out.fail_none HNO.out]
      go_wp2_with fail
      simp only [Exit.jump]
      go_ret
      exact ⟨rfl,_,rfl⟩
     ·have n0:¬ (n:Int)<0:=by omega
      have g0:decide ((n:Int)<0)=false:=decide_eq_false n0
      have f0:(0:Int)≤(f:Int):=by omega
      by_cases hfS:f=S
      ·obtain rfl:false=r:=by rw [← HR.out,HG.out.fail_end HNO.out (Or.inl (List.getElem?_eq_none_iff.2 (by rw [HSS.out];omega)))]
       have g1:((f:Int) == (S:Int))=true:=by rw [hfS];simp
       clear hfS
       go_wp2_with fail
       simp only [Exit.jump]
       go_ret
       exact ⟨rfl,_,rfl⟩
      ·have g1:((f:Int) == (S:Int))=false:=beq_eq_false_iff_ne.2 (by omega)
       have f1:(f:Int)<(S:Int):=by omega
       obtain ⟨c,hc⟩:∃ c,s[f]?=some c:=⟨_,List.getElem?_eq_getElem (by rw [HSS.out];omega)⟩
       have hcf:=HSC.out f c hc
       have HCF:=Lib.hid hc
       clear hc hfS
       by_cases h47:c=47
       ·obtain rfl:false=r:=by rw [← HR.out,HG.out.fail_end HNO.out (Or.inr (by rw [HCF.out,h47]))]
        have g2:(c == 47)=true:=beq_iff_eq.2 h47
        clear h47
        go_wp2_with fail
        simp only [Exit.jump]
        go_ret
        exact ⟨rfl,_,rfl⟩
       ·have g2:(c == 47)=false:=beq_eq_false_iff_ne.2 h47
        have HG2:=Lib.hid (HG.out.again HNO.out HCF.out h47)
        have w1:IntKind.i64.wrap ((f:Int)+1)=((f+1:Nat):Int):=by rw [IntWalk.i64_in _ (by omega)];omega
        have w2:IntKind.i64.wrap ((n:Int)+1)=((n+1:Nat):Int):=by rw [IntWalk.i64_in _ (by omega)];omega
        clear h47
        go_wp2_with fail
        go_step3
        (try simp only [w1,w2])
        exact ⟨rfl,⟨_,n+1,f+1,f+1,n,some (n,f+1),_,_,_,_,_,_,_,_,_,_,_,_,_,_,_,_,_,_,_,_,_,_,_,_,_,_,_,_,_,_,_,_,_,_,_,_,_,_,_,_,_,_,_,_,_,_,_,_,_,_,_,_,_,_,_,_,_,_,_,_,_,_,_,_,_,_,_,_,_,_,rfl,Or.inr ⟨n,rfl,rfl⟩,HG2,rfl⟩,by simp [gMu,intOf];omega⟩
theorem convR (w:World) (s:ByteArray) (hs:s.size≤256):∃ (b c:Nat) (w2:World),(convert 9 179 (.string s)).run Tryz.prog w=.ok (.slice (some ⟨b,0,none⟩) (runesL s).length c) w2∧Below w.heap.size w w2∧∀ i x,(runesL s)[i]?=some x→w2.cell? ⟨b,i,none⟩=some (.int .i32 x):=by
 have e:=runesFrom_eq s s.size 0 #[]
 simp only [Array.empty_append] at e
 have hl:(Conv.runesFrom s s.size 0 #[]).size=(runesL s).length:=by rw [e];simp [runesL]
 have hlen:=runeGo_len s s.size 0
 have h:=run_runes_of_string w 9 179 21 s Tryz.underlying9 Tryz.underlying179 Tryz.underlying21 (by rw [hl];unfold runesL;omega)
 rw [hl] at h
 refine ⟨_,_,_,h,bel_alloc (bel_drew (Below.refl _ _)) _,fun i x hx=>?_⟩
 refine (cell_al_eq w.drew _ _ _ i rfl).trans ?_
 rw [e]
 have hi:=(List.getElem?_eq_some_iff.1 hx).1
 rw [Array.getElem?_append_left (by simp [runesL] at hi ⊢;exact hi)]
 simp only [List.getElem?_toArray,List.getElem?_map]
 unfold runesL at hx
 rw [hx]
 rfl
theorem pathB_size {s:ByteArray} (h:pathB s=true):s.size≤256:=by
 unfold pathB at h
 simp only [Bool.and_eq_true,decide_eq_true_eq] at h
 exact h.1.1.2
theorem Match_any (a p:ByteArray) (w:World) (ha:a.size≤maxLen) (hp:p.size≤maxLen) :
 Calls Tryz.prog 114 #[.string a,.string p] w fun e w'=>e=.returned (.bool (hitB a p))∧Below w.heap.size w w':=by
 have HP1:=Lib.hid (fun W=>pattern_any a W ha)
 have HP2:=Lib.hid (fun W=>path_any p W hp)
 unfold hitB
 cases h1:pathB a with
 | false =>
   rw [h1] at HP1
   clear h1
   go_enter Tryz.func114,Tryz.ntmps114
   go_wp2_with fail
   refine (HP1.out _).mono ?_
   rintro e w2 ⟨rfl,hb⟩
   have HB:=Lib.hid hb
   clear hb
   go_wp2_with fail
   go_ret
   exact ⟨rfl,HB.out⟩
 | true =>
   cases h2:pathB p with
   | false =>
     rw [h1] at HP1
     rw [h2] at HP2
     clear h1 h2
     go_enter Tryz.func114,Tryz.ntmps114
     go_wp2_with fail
     refine (HP1.out _).mono ?_
     rintro e w2 ⟨rfl,hb⟩
     have HB:=Lib.hid hb
     clear hb
     go_wp2_with fail
     refine (HP2.out _).mono ?_
     rintro e w3 ⟨rfl,hb⟩
     have HB2:=Lib.hid (below_more HB.out hb)
     clear hb
     go_wp2_with fail
     go_ret
     exact ⟨rfl,HB2.out⟩
   | true =>
     have z1:=pathB_size h1
     have z2:=pathB_size h2
     have l1:=runeGo_len a a.size 0
     have l2:=runeGo_len p p.size 0
     have HL1:Hid ((runesL a).length≤256):=Nat.le_trans l1 z1
     have HL2:Hid ((runesL p).length≤256):=Nat.le_trans l2 z2
     have HZ1:=Lib.hid z1
     have HZ2:=Lib.hid z2
     rw [h1] at HP1
     rw [h2] at HP2
     clear h1 h2 z1 z2 l1 l2
     go_enter Tryz.func114,Tryz.ntmps114
     go_wp2_with fail
     refine (HP1.out _).mono ?_
     rintro e w2 ⟨rfl,hb⟩
     have HB:=Lib.hid hb
     clear hb
     go_wp2_with fail
     refine (HP2.out _).mono ?_
     rintro e w3 ⟨rfl,hb⟩
     have HB2:=Lib.hid (below_more HB.out hb)
     clear hb
     obtain ⟨b1,c1,w4,hc1,hb4,hr4⟩:=convR w3 a HZ1.out
     obtain ⟨b2,c2,w5,hc2,hb5,hr5⟩:=convR w4 p HZ2.out
     have HG:=Lib.hid (gMatch_any (runesL a) (runesL p) b1 b2 _ _ c1 c2 w5 rfl rfl HL1.out HL2.out (fun i x hx=>cell_keep hb5 (hr4 i x hx)) hr5)
     have HB5:=Lib.hid (below_more (below_more HB2.out hb4) hb5)
     clear hb4 hb5 hr4 hr5
     go_wp2_with fail
     refine HG.out.mono ?_
     rintro e w6 ⟨rfl,m,rfl⟩
     go_wp2_with fail
     go_ret
     exact ⟨rfl,below_drewN HB5.out _⟩
theorem any_step {α:Type} {l:List α} {f:α→Bool} {k:Nat} {s:α} (hs:l[k]?=some s) (ha:(l.take k).any f=false) (hf:f s=false):(l.take (k+1)).any f=false:=by
 rw [List.take_add_one,hs,List.any_append,ha]
 simp [hf]
theorem First_any (l:List ByteArray) (p:ByteArray) (v:Value) (w:World) (h:StrsAt w v l) (hp:p.size≤maxLen) :
 Calls Tryz.prog 85 #[v,.string p] w fun e w'=>(∃ k:Int,e=.returned (.tuple #[.int .i64 k,.bool (anyH hitB l p)]))∧Below w.heap.size w w':=by
 obtain ⟨a,cap,rfl,hl,hm,hc⟩:=h.parts
 obtain ⟨n,hn⟩:∃ n,l.length=n:=⟨_,rfl⟩
 obtain ⟨r,hr⟩:∃ r,anyH hitB l p=r:=⟨_,rfl⟩
 rw [hn] at hl ⊢
 rw [hr]
 unfold anyH at hr
 have HR:=Lib.hid hr
 have HC:=Lib.hid hc
 have HM:=Lib.hid hm
 have HN:=Lib.hid hn
 have HPS:=Lib.hid hp
 clear h hc hm hn hr hp
 go_enter Tryz.func85,Tryz.ntmps85
 go_wp2_with fail
 go_loopw [10] (fun i wr=>∃ k:Nat,k≤n∧i=.int .i64 k∧Hid ((l.take k).any (fun a=>hitB a p)=false)∧Hid (Below w.heap.size w wr)) (fun i _=>n - (intOf i).toNat)
 case atStart=>exact ⟨0,by omega,rfl,by show _=_;simp,Below.refl _ _⟩
 case round =>
  obtain ⟨k,hk,rfl,HA,HB⟩:=hrel
  by_cases hlt:k<n
  ·obtain ⟨s,hs⟩:∃ s,l[k]?=some s:=⟨_,List.getElem?_eq_getElem (by rw [HN.out];exact hlt)⟩
   obtain ⟨b,o,rfl,hcs⟩:=HC.out k s hs
   have hcs2:=cell_keep HB.out hcs
   have HP:=Lib.hid (fun W=>Match_any s p W (HM.out s (List.mem_of_getElem? hs)) HPS.out)
   have j0:(0:Int)≤(k:Int):=by omega
   have j1:(k:Int)<(n:Int):=by omega
   cases hh:hitB s p with
   | false =>
     have HA2:=Lib.hid (any_step hs HA.out hh)
     rw [hh] at HP
     clear hs hcs hh HA
     go_wp2_with fail
     refine (HP.out _).mono ?_
     rintro e w2 ⟨rfl,hb⟩
     have HB2:=Lib.hid (below_more HB.out hb)
     clear hb
     go_wp2_with fail
     exact ⟨⟨k+1,by omega,by go_num,HA2,HB2⟩,by simp [intOf];omega⟩
   | true =>
     obtain rfl:true=r:=by
      rw [← HR.out,Eq.comm,List.any_eq_true]
      exact ⟨s,List.mem_of_getElem? hs,hh⟩
     rw [hh] at HP
     clear hs hcs hh HA
     go_wp2_with fail
     refine (HP.out _).mono ?_
     rintro e w2 ⟨rfl,hb⟩
     have HB2:=Lib.hid (below_more HB.out hb)
     clear hb
     go_wp2_with fail
     go_ret2
     exact ⟨⟨_,rfl⟩,HB2.out⟩
  ·have hall:=HA.out
   rw [List.take_of_length_le (by rw [HN.out];omega),HR.out] at hall
   subst hall
   have j1:¬ (k:Int)<(n:Int):=by omega
   clear HA
   go_wp2_with fail
   go_ret2
   exact ⟨⟨_,rfl⟩,HB.out⟩
theorem gAny_any (l:List ByteArray) (p:ByteArray) (v:Value) (w:World) (h:StrsAt w v l) (hp:p.size≤maxLen) :
 Calls Tryz.prog 59 #[v,.string p] w fun e w'=>e=.returned (.bool (anyH hitB l p))∧Below w.heap.size w w':=by
 have HF:=Lib.hid (First_any l p v w h hp)
 clear h hp
 go_enter Tryz.func59,Tryz.ntmps59
 go_wp2_with fail
 refine HF.out.mono ?_
 rintro e w2 ⟨⟨k,rfl⟩,hb⟩
 have HB:=Lib.hid hb
 clear hb
 go_wp2_with fail
 go_ret
 exact ⟨rfl,HB.out⟩
theorem Matches_any (x:MapgP) (p:ByteArray) (a1 a2:Option Addr) (n1 c1 n2 c2:Nat) (w:World) (h:StrsAt w (.slice a1 n1 c1) x.paths) (hp:p.size≤maxLen) :
 Calls Tryz.prog 28 #[.agg #[.slice a1 n1 c1,.slice a2 n2 c2,.bool x.term,.int .i64 x.thr],.string p] w fun e w'=>e=.returned (.bool (anyH hitB x.paths p))∧Below w.heap.size w w':=by
 have hb1:Below w.heap.size w (w.alloc (.cells #[.slice a1 n1 c1,.slice a2 n2 c2,.bool x.term,.int .i64 x.thr] 55)):=bel_alloc (Below.refl _ _) _
 have HF:=Lib.hid (gAny_any x.paths p (.slice a1 n1 c1) _ (h.keep hb1) hp)
 have HB1:=Lib.hid hb1
 clear h hp hb1
 go_enter Tryz.func28,Tryz.ntmps28
 go_wp2_with fail
 refine HF.out.mono ?_
 rintro e w2 ⟨rfl,hb⟩
 have HB:=Lib.hid (below_more HB1.out hb)
 clear hb
 go_wp2_with fail
 go_ret
 exact ⟨rfl,HB.out⟩
end

section
set_option maxRecDepth 100000
open Go.RowKit
structure GX where
 x:MapgP
 a1:Option Addr
 c1:Nat
 a2:Option Addr
 c2:Nat
def GX.cells (g:GX):List Value:=[.slice g.a1 g.x.paths.length g.c1,.slice g.a2 g.x.repos.length g.c2,.bool g.x.term,.int .i64 g.x.thr]
theorem GX.cells_len (g:GX):g.cells.length=4:=rfl
theorem GX.cells_one (g:GX):∀ v ∈ g.cells,v.oneCell'=true:=by
 intro v hv
 simp only [GX.cells,List.mem_cons,List.not_mem_nil,or_false] at hv
 rcases hv with rfl | rfl | rfl | rfl <;> rfl
def gxCells (gs:List GX):List Value:=gs.flatMap GX.cells
theorem gxCells_snoc (gs:List GX) (g:GX):gxCells (gs++[g])=gxCells gs++g.cells:=by simp [gxCells]
theorem gxCells_get:∀ (gs:List GX) (i:Nat) (g:GX),gs[i]?=some g→∀ j,j<4→(gxCells gs)[i*4+j]?=g.cells[j]?
 | [],i,g,h,_,_=>by simp at h
 | y :: r,0,g,h,j,hj=>by
   simp at h;subst h
   show (y.cells++gxCells r)[0*4+j]?=_
   rw [Nat.zero_mul,Nat.zero_add,List.getElem?_append_left (by rw [GX.cells_len];omega)]
 | y :: r,i+1,g,h,j,hj=>by
   show (y.cells++gxCells r)[(i+1)*4+j]?=_
   rw [List.getElem?_append_right (by rw [GX.cells_len];omega),← gxCells_get r i g (by simpa using h) j hj,GX.cells_len]
   congr 1
   omega
def MapsOwn (w:World) (B:Nat) (v:Value) (gs:List GX):Prop:=w.ownsRow B 55 4 v gs.length (gxCells gs)∧∀ g ∈ gs,StrsAt (hidden (offB B v.ownBlock) w) (.slice g.a1 g.x.paths.length g.c1) g.x.paths∧StrsAt (hidden (offB B v.ownBlock) w) (.slice g.a2 g.x.repos.length g.c2) g.x.repos
theorem MapsOwn.nil (w:World) (B:Nat):MapsOwn w B (.slice none 0 0) []:=⟨World.ownsRow_nil _ _ _ _,by simp⟩
theorem MapsOwn.keep {w w':World} {B:Nat} {v:Value} {gs:List GX} (h:MapsOwn w B v gs) (hb:Below w.heap.size w w'):MapsOwn w' B v gs :=
 ⟨ownsRow_keep h.1 hb,fun g hg=>⟨(h.2 g hg).1.imp (hid_imp fun k hk hP=>⟨hP,hb.block k hk⟩),(h.2 g hg).2.imp (hid_imp fun k hk hP=>⟨hP,hb.block k hk⟩)⟩⟩
theorem MapsOwn.snoc {wr W8 w9:World} {B:Nat} {v v':Value} {gs:List GX} {g:GX} (h:MapsOwn wr B v gs) (hb:Below wr.heap.size wr W8) (hB:B≤wr.heap.size) (hown:w9.ownsRow B 55 4 v' (gs.length+1) (gxCells gs++g.cells)) (hg:W8.grownBy w9 v.ownBlock) (hat:v'.ownBlock=v.ownBlock∨v'.ownBlock=some W8.heap.size)
 (h1:StrsAt (hidden (offB wr.heap.size none) W8) (.slice g.a1 g.x.paths.length g.c1) g.x.paths) (h2:StrsAt (hidden (offB wr.heap.size none) W8) (.slice g.a2 g.x.repos.length g.c2) g.x.repos):MapsOwn w9 B v' (gs++[g]):=by
 have hlt:∀ k,v.ownBlock=some k→k<wr.heap.size:=fun k hk=>(World.ownsRow.lt h.1 k hk).2
 have hs:=hb.size
 have ho:∀ p u,(hidden (offB B v.ownBlock) wr).cell? p=some u→(hidden (offB B v'.ownBlock) w9).cell? p=some u:=hid_imp fun k hk hP=>by
  obtain ⟨hk1,hk2⟩:=offB_no.1 hP
  refine ⟨offB_no.2 ⟨hk1,?_⟩,(hg.block k (by omega) (fun e=>hk2 e.symm)).trans (hb.block k hk)⟩
  rcases hat with e | e
  ·rw [e];exact hk2
  ·rw [e];intro e2;have:=Option.some.inj e2;omega
 have hn:∀ p u,(hidden (offB wr.heap.size none) W8).cell? p=some u→(hidden (offB B v'.ownBlock) w9).cell? p=some u:=hid_imp fun k hk hP=>by
  have hk1:=offB_none.1 hP
  have hne:v.ownBlock≠some k:=fun e=>by have:=hlt k e;omega
  refine ⟨offB_no.2 ⟨by omega,?_⟩,hg.block k hk (fun e=>hne e.symm)⟩
  rcases hat with e | e
  ·rw [e];exact hne
  ·rw [e];intro e2;have:=Option.some.inj e2;omega
 refine ⟨by rw [List.length_append,gxCells_snoc];exact hown,fun y hy=>?_⟩
 rcases List.mem_append.1 hy with hy | hy
 ·exact ⟨(h.2 y hy).1.imp ho,(h.2 y hy).2.imp ho⟩
 ·rw [List.mem_singleton.1 hy]
  exact ⟨h1.imp hn,h2.imp hn⟩
theorem MapsOwn.out {w:World} {B:Nat} {v:Value} {gs:List GX} (h:MapsOwn w B v gs) (hl:gs.length≤9223372036854775807) (hc:∀ g ∈ gs,g.x.repos.length≤g.c2∧-9223372036854775808≤g.x.thr∧g.x.thr≤9223372036854775807):MapsAt (hidden (offB B none) w) v (gs.map GX.x):=by
 have h':=h.1
 have hi:∀ p u,(hidden (offB B v.ownBlock) w).cell? p=some u→(hidden (offB B none) w).cell? p=some u:=hid_imp fun k hk hP=>⟨offB_none.2 (offB_no.1 hP).1,rfl⟩
 refine ⟨by rw [List.length_map];exact hl,?_⟩
 rcases h.1.2 with ⟨rfl,h0⟩ | ⟨g,cap,cur,rfl,hB,hcl,hcp,_⟩
 ·have:gs=[]:=List.length_eq_zero_iff.1 h0
  subst this
  exact ⟨fun a n c e=>by simp only [Value.slice.injEq] at e;omega,none,0,rfl,fun i x hx=>by simp at hx⟩
 ·refine ⟨fun a n c e=>by simp only [Value.slice.injEq] at e;omega,some ⟨g,0,none⟩,cap,by rw [List.length_map],fun i x hx=>?_⟩
  rw [List.getElem?_map] at hx
  obtain ⟨y,hy,rfl⟩:=Option.map_eq_some_iff.1 hx
  have hm:=List.mem_of_getElem? hy
  have hcc:=World.ownsRow.cells h' (g:=g) rfl
  have hadd:∀ j,(⟨g,0,none⟩:Addr).add j=⟨g,j,none⟩:=fun j=>by unfold Addr.add;split <;> simp_all
  have hcell:∀ j c,j<4→y.cells[j]?=some c→(hidden (offB B none) w).cell? ⟨g,0+i*4+j,none⟩=some c:=fun j c hj hc=>by
   refine (hidden_cell _ _ _ _).2 ⟨offB_none.2 hB,⟨_,_,hcl⟩,?_⟩
   rw [show 0+i*4+j=i*4+j by omega,← hadd]
   exact hcc _ _ ((gxCells_get gs i y hy j hj).trans hc)
  exact ⟨g,0,_,_,rfl,hcell 0 _ (by omega) rfl,hcell 1 _ (by omega) rfl,hcell 2 _ (by omega) rfl,hcell 3 _ (by omega) rfl,(h.2 y hm).1.imp hi,(h.2 y hm).2.imp hi,fun a n c e=>by simp only [Value.slice.injEq] at e;have:=(hc y hm).1;omega,(hc y hm).2⟩
theorem infoMapg:(Tryz.prog.info? 55).map (fun i=>(i.zero,i.size,i.bytes))=some (some (.agg #[.slice none 0 0,.slice none 0 0,.bool false,.int .i64 0]),4,64):=by kernel_rfl
def ForPost (l:List MapgP) (w:World) (e:Ending) (w':World):Prop :=
 ∃ (a:Option Addr) (c:Nat) (gs:List GX),e=.returned (.slice a gs.length c)∧Below w.heap.size w w'∧MapsOwn w' w.heap.size (.slice a gs.length c) gs∧gs.map GX.x=l∧∀ g ∈ gs,g.x.repos.length≤g.c2
theorem forV_step {hit:ByteArray→ByteArray→Bool} {p:ByteArray} {l:List MapgP} {j:Nat} {x:MapgP} (hx:l[j]?=some x):forV hit p (l.drop j)=if anyH hit x.paths p=true then x :: (if x.term=true then [] else forV hit p (l.drop (j+1))) else forV hit p (l.drop (j+1)):=by
 obtain ⟨h1,h2⟩:=List.getElem?_eq_some_iff.1 hx
 rw [List.drop_eq_getElem_cons h1,h2,forV]
theorem StrsAt.cap {w:World} {B:Nat} {a:Option Addr} {n c:Nat} {l:List ByteArray} (h:w.ownsRow B 9 1 (.slice a n c) n (l.map Value.string)):n≤c:=by
 rcases h.2 with ⟨e,-⟩ | ⟨g,cap,cur,e,-,-,hc,-⟩
 ·simp only [Value.slice.injEq] at e;omega
 ·simp only [Value.slice.injEq] at e;omega
theorem clone2_any (l:List ByteArray) (v:Value) (w:World) (h:StrsAt w v l) (hl:l.length≤1000000000) :
 Calls Tryz.prog 58 #[v] w fun e w'=>∃ a c,e=.returned (.slice a l.length c)∧Below w.heap.size w w'∧StrsAt (hidden (offB w.heap.size none) w') (.slice a l.length c) l∧l.length≤c:=by
 obtain ⟨a,cap,rfl,h1,h2,h3⟩:=h.parts
 obtain ⟨n,hn⟩:∃ n,l.length=n:=⟨_,rfl⟩
 rw [hn] at hl ⊢
 cases a with
 | none =>
   have hq:=Lib.run_eql_slice_nil w 26 9 none n cap 0 0 Tryz.underlying26
   have hl0:l=[]:=by
    match l,h3 with
    | [],_=>rfl
    | s :: r,h3 =>
      obtain ⟨b,o,e,-⟩:=h3 0 s rfl
      exact absurd e (by simp)
   subst hl0
   obtain rfl:n=0:=hn.symm
   go_enter Tryz.func58,Tryz.ntmps58
   go_wp2_with fail
   go_ret
   exact ⟨none,0,rfl,Below.refl _ _,strsAt_nil _,Nat.le_refl _⟩
 | some a =>
   have hq:=Lib.run_eql_slice_nil w 26 9 (some a) n cap 0 0 Tryz.underlying26
   obtain ⟨i0,hi,hz0,hz1,hz2⟩:=info_parts infoStr
   have HC:Hid (∀ i s,l[i]?=some s→w.cell? (a.add i)=some (.string s)):=fun i s hs=>by
    obtain ⟨b,o,e,hc⟩:=h3 i s hs
    cases e
    have hadd:(⟨b,o,none⟩:Addr).add i=⟨b,o+i,none⟩:=by unfold Addr.add;split <;> simp_all
    rw [hadd]
    exact hc
   have HM:=Lib.hid h2
   have HN:=Lib.hid hn
   clear h h1 h2 h3 hn
   go_enter Tryz.func58,Tryz.ntmps58
   go_wp2_with (at_builtin;refine wpList_append_own _ rfl _ _ 26 rfl w.heap.size 9 i0 (.string ⟨#[]⟩) 1 16 Tryz.underlying26 hi hz0 hz1 hz2 rfl (by decide) _ _ _ rfl (World.ownsRow_made w #[] 0 (Nat.le_refl _) (Nat.zero_le _) rfl) a n cap (l.map Value.string) rfl ?qc1 ?qc2 ?qc3 ?qc4 ?qc5 ?qc6 ?_)
   case qc1=>rw [List.length_map,HN.out];omega
   case qc2 =>
    intro j u hj
    rw [List.getElem?_map] at hj
    obtain ⟨s,hs,rfl⟩:=Option.map_eq_some_iff.1 hj
    exact Lib.cell?_alloc_some _ (HC.out j s hs)
   case qc3=>intro u hu;obtain ⟨x,_,rfl⟩:=List.mem_map.1 hu;rfl
   case qc4=>unfold maxLen;omega
   case qc5=>omega
   case qc6=>simp
   intro v' w1 hown hgrow hnil
   have hform:∃ g c,v'=.slice (some ⟨g,0,none⟩) n c:=by
    rcases hown.2 with ⟨e,-⟩ | ⟨g,c,cur,e,-⟩
    ·exact absurd e hnil
    ·exact ⟨g,c,e⟩
   obtain ⟨g,c,rfl⟩:=hform
   have hs:StrsAt (hidden (offB w.heap.size none) w1) (.slice (some ⟨g,0,none⟩) n c) l:=by
    have:=hown
    refine strs_own (B1:=w.heap.size) (l:=l) ?_ (Nat.le_refl _) HM.out (by rw [HN.out];omega)
    rw [HN.out]
    exact this
   have HS:=Lib.hid hs
   have hcap:n≤c:=StrsAt.cap (l:=l) (by have:=hown;exact this)
   have HCP:=Lib.hid hcap
   have hB:Below w.heap.size w w1:=((Below.refl _ w).alloc (Nat.le_refl _) _).grown hgrow (by simp) (by intro k hk;simp [Value.ownBlock] at hk;omega)
   clear hown hgrow hnil hs hcap
   go_wp2_with fail
   go_ret
   exact ⟨some ⟨g,0,none⟩,c,rfl,hB,HS.out,HCP.out⟩
theorem For_any (M:MapP) (p:ByteArray) (v:Value) (w:World) (h:MapAt w v M) (hp:p.size≤maxLen) (hl:M.maps.length≤1000000) (hx:∀ x ∈ M.maps,x.paths.length≤1000000000∧x.repos.length≤1000000000) :
 Calls Tryz.prog 26 #[v,.string p] w (ForPost (forV hitB p M.maps) w):=by
 obtain ⟨a1,c1,a2,c2,rfl,-,hm⟩:=h.parts
 obtain ⟨xa,xc,e0,-,hc⟩:=hm.at
 simp only [Value.slice.injEq,true_and] at e0
 obtain ⟨rfl,rfl⟩:=e0
 obtain ⟨rn,hrn⟩:∃ n,M.repos.length=n:=⟨_,rfl⟩
 obtain ⟨l,hlm⟩:∃ l,M.maps=l:=⟨_,rfl⟩
 rw [hlm] at hc hl hx ⊢
 rw [hrn]
 obtain ⟨n,hn⟩:∃ n,l.length=n:=⟨_,rfl⟩
 rw [hn] at hl ⊢
 obtain ⟨W,hW⟩:∃ W,W=w.alloc (.cells #[.slice a1 rn c1,.slice a2 n c2] 25):=⟨_,rfl⟩
 have hBW:Below w.heap.size w W:=by rw [hW];exact bel_alloc (Below.refl _ _) _
 obtain ⟨i0,hi,hz0,hz1,hz2⟩:=info_parts infoMapg
 have HI:=Lib.hid hi
 have HZ0:=Lib.hid hz0
 have HZ1:=Lib.hid hz1
 have HZ2:=Lib.hid hz2
 have HC:=Lib.hid hc
 have HN:=Lib.hid hn
 have HX:=Lib.hid hx
 have HPS:=Lib.hid hp
 have HBW:=Lib.hid hBW
 have HW:=Lib.hid hW
 clear h hm hc hn hx hp hrn hlm hBW hW hi hz0 hz1 hz2
 go_enter Tryz.func26,Tryz.ntmps26
 go_wp2_with fail
 rw [← HW.out]
 go_loopw [5,12] (fun vl i wr=>∃ (j:Nat) (gs:List GX) (va:Option Addr) (vn vc:Nat),j≤n∧i=.int .i64 j∧vl=.slice va vn vc∧Hid (vn=gs.length∧gs.length≤j)∧Hid (MapsOwn wr w.heap.size (.slice va vn vc) gs)∧Hid (∀ g ∈ gs,g.x.repos.length≤g.c2)∧Hid (gs.map GX.x++forV hitB p (l.drop j)=forV hitB p l)∧Hid (Below w.heap.size w wr)) (fun _ i _=>n - (intOf i).toNat)
 case atStart=>exact ⟨0,[],none,0,0,by omega,rfl,rfl,⟨rfl,Nat.le_refl _⟩,MapsOwn.nil _ _,(by intro g hg;cases hg),(by show _=_;simp),HBW.out⟩
 case round =>
  obtain ⟨j,gs,va,vn,vc,hj,rfl,rfl,HV,HO,HK,HF,HB⟩:=hrel
  by_cases hjl:j<n
  ·obtain ⟨x,hxj⟩:∃ x,l[j]?=some x:=⟨_,List.getElem?_eq_getElem (by rw [HN.out];exact hjl)⟩
   obtain ⟨ab,ao,b1,d1,b2,d2,rfl,p0,p1,p2,p3,hs1,hs2,-⟩:=HC.out j x hxj
   have p0:=cell_keep HB.out p0
   have p1:=cell_keep HB.out p1
   have p2:=cell_keep HB.out p2
   have p3:=cell_keep HB.out p3
   have hst:=forV_step (hit:=hitB) (p:=p) hxj
   have hxl:=HX.out x (List.mem_of_getElem? hxj)
   have hj0:(0:Int)≤(j:Int):=by omega
   have hj1:(j:Int)<(n:Int):=by omega
   obtain ⟨xp,xr,xt,xh⟩:=x
   simp only at p0 p1 p2 p3 hs1 hs2 hst hxl
   obtain ⟨n1,hn1⟩:∃ n,xp.length=n:=⟨_,rfl⟩
   obtain ⟨n2,hn2⟩:∃ n,xr.length=n:=⟨_,rfl⟩
   rw [hn1] at p0 hs1 hxl
   rw [hn2] at p1 hs2 hxl
   have hbx:Below w.heap.size w (wr.alloc (.cells #[.slice b1 n1 d1,.slice b2 n2 d2,.bool xt,.int .i64 xh] 55)):=bel_alloc HB.out _
   have hM:=Matches_any ⟨xp,xr,xt,xh⟩ p b1 b2 n1 d1 n2 d2 _ (hs1.keep hbx) HPS.out
   simp only at hM
   have hbk:BlkAt (wr.alloc (.cells #[.slice b1 n1 d1,.slice b2 n2 d2,.bool xt,.int .i64 xh] 55)) wr.heap.size 55 #[.slice b1 n1 d1,.slice b2 n2 d2,.bool xt,.int .i64 xh]:=blkAt_new wr _ _
   have HBK:=Lib.hid hbk
   have HBX:=Lib.hid hbx
   have HS1:=Lib.hid hs1
   have HS2:=Lib.hid hs2
   have HST:=Lib.hid hst
   have HXL:=Lib.hid hxl
   have HN1:=Lib.hid hn1
   have HN2:=Lib.hid hn2
   have HQ:=Lib.hid (bel_alloc (Below.refl wr.heap.size wr) (.cells #[.slice b1 n1 d1,.slice b2 n2 d2,.bool xt,.int .i64 xh] 55))
   cases hh:anyH hitB xp p with
   | false =>
     rw [hh] at hM
     have HM:=Lib.hid hM
     have hst:=HST.out
     rw [hh,if_neg (by decide)] at hst
     have HF2:Hid (gs.map GX.x++forV hitB p (l.drop (j+1))=forV hitB p l):=by rw [← hst];exact HF.out
     clear hM hst hh hxj hs1 hs2 hxl hn1 hn2 hbx hbk HF
     go_wp2_with fail
     refine HM.out.mono ?_
     rintro e w2 ⟨rfl,hb2⟩
     have HB2:=Lib.hid (below_more HBX.out hb2)
     have HO2:=Lib.hid (HO.out.keep (below_more HQ.out hb2))
     clear hb2
     go_wp2_with fail
     exact ⟨⟨j+1,gs,va,vn,vc,by omega,by go_num,rfl,⟨HV.out.1,by have:=HV.out.2;omega⟩,HO2,HK,HF2,HB2⟩,by simp [intOf];omega⟩
   | true =>
     rw [hh] at hM
     have HM:=Lib.hid hM
     have hst:=HST.out
     rw [hh,if_pos rfl] at hst
     have HSTT:=Lib.hid hst
     clear hM hst hh hxj hs1 hs2 hxl hn1 hn2 hbx hbk HST
     go_wp2_with fail
     refine HM.out.mono ?_
     rintro e w2 ⟨rfl,hb2⟩
     have hB2:=below_more HBX.out hb2
     have hQ2:=below_more HQ.out hb2
     have HT2:=Lib.hid (HBK.out.keep hb2)
     have htl:=HT2.out.lt
     obtain ⟨yb,hyb⟩:∃ b,w2.heap.size=b:=⟨_,rfl⟩
     obtain ⟨w3,hw3⟩:∃ y,y=w2.alloc (.cells #[.slice b1 n1 d1,.slice b2 n2 d2,.bool xt,.int .i64 xh] 55):=⟨_,rfl⟩
     have hb3:Below w2.heap.size w2 w3:=by rw [hw3];exact bel_alloc (Below.refl _ _) _
     have hB3:=below_more hB2 hb3
     have hQ3:=below_more hQ2 hb3
     have HT3:=Lib.hid (HT2.out.keep hb3)
     have HY3:Hid (BlkAt w3 yb 55 #[.slice b1 n1 d1,.slice b2 n2 d2,.bool xt,.int .i64 xh]):=by rw [hw3,← hyb];exact blkAt_new w2 _ _
     have hs3:w3.heap.size=yb+1:=by rw [hw3,size_al,hyb]
     have hyr:wr.heap.size≤yb:=by rw [← hyb];exact hQ2.size
     have hwr:w.heap.size≤wr.heap.size:=HB.out.size
     have HCL:=Lib.hid (clone2_any xp (.slice b1 n1 d1) w3 (HS1.out.keep hB3) (by rw [HN1.out];exact HXL.out.1))
     rw [HN1.out] at HCL
     have HW3:=Lib.hid hw3
     have HYB:=Lib.hid hyb
     have HB3:=Lib.hid hB3
     have HQ3:=Lib.hid hQ3
     obtain ⟨t0,t1,t2,t3,tf⟩:=b4' HT2.out
     obtain ⟨s0,s1,s2,s3,sf⟩:=b4' HT3.out
     rw [HW3.out] at s0 s1 s2 s3 sf
     clear hb2 hB2 hQ2 hb3 hB3 hQ3 hw3 hyb HM HBX
     go_wp2_with fail
     rw [← HW3.out,HYB.out]
     refine HCL.out.mono ?_
     rintro e w4 ⟨ca,cc,rfl,hb4,hst4,-⟩
     have HY4:=Lib.hid (HY3.out.keep hb4)
     have HT4:=Lib.hid (HT3.out.keep hb4)
     have hB4:=below_more HB3.out hb4
     have hQ4:=below_more HQ3.out hb4
     have hs4:yb+1≤w4.heap.size:=by have:=hb4.size;omega
     have hyt:¬ yb=wr.heap.size:=by have:=htl;have:=HYB.out;omega
     have hty:¬ wr.heap.size=yb:=fun e=>hyt e.symm
     obtain ⟨w5,hw5⟩:∃ y,y=w4.setCell ⟨yb,0,none⟩ (.slice ca n1 cc):=⟨_,rfl⟩
     have hB5:Below w.heap.size w w5:=by rw [hw5];exact bel_set hB4 (p:=⟨yb,0,none⟩) (by show w.heap.size≤yb;omega) _
     have hQ5:Below wr.heap.size wr w5:=by rw [hw5];exact bel_set hQ4 (p:=⟨yb,0,none⟩) hyr _
     have hk5:∀ k,k<w4.heap.size→k≠yb→w5.heap[k]?=w4.heap[k]?:=fun k _ hne=>by rw [hw5];exact Below.heap_setCell _ _ _ _ hne
     have hs5:w5.heap.size=w4.heap.size:=by rw [hw5,setCell_size]
     have HY5:Hid (BlkAt w5 yb 55 #[.slice ca n1 cc,.slice b2 n2 d2,.bool xt,.int .i64 xh]):=by rw [hw5];exact HY4.out.set 0 _
     have HT5:Hid (BlkAt w5 wr.heap.size 55 #[.slice b1 n1 d1,.slice b2 n2 d2,.bool xt,.int .i64 xh]):=by rw [hw5];exact HT4.out.set_far hyt 0 _
     have HCL2:=Lib.hid (clone2_any xr (.slice b2 n2 d2) w5 (HS2.out.keep hB5) (by rw [HN2.out];exact HXL.out.2))
     rw [HN2.out] at HCL2
     have HST4:Hid (StrsAt (hidden (offB wr.heap.size (some yb)) w5) (.slice ca n1 cc) xp):=hst4.imp (hid_imp fun k hk hP=>by
      have h1:=offB_none.1 hP
      exact ⟨offB_no.2 ⟨by omega,fun e=>by have:=Option.some.inj e;omega⟩,hk5 k hk (by omega)⟩)
     have HW5:=Lib.hid hw5
     have HB5:=Lib.hid hB5
     have HQ5:=Lib.hid hQ5
     obtain ⟨y0,y1,y2,y3,yf⟩:=b4' HY4.out
     obtain ⟨t0,t1,t2,t3,tf⟩:=b4' HT5.out
     rw [HW5.out] at t0 t1 t2 t3 tf
     clear hb4 hst4 hB4 hQ4 hw5 hB5 hQ5 hk5 HCL s0 s1 s2 s3 sf
     go_wp2_with fail
     rw [← HW5.out]
     refine HCL2.out.mono ?_
     rintro e w6 ⟨da,dc,rfl,hb6,hst6,hcap6⟩
     have HY6:=Lib.hid (HY5.out.keep hb6)
     have HT6:=Lib.hid (HT5.out.keep hb6)
     have hB6:=below_more HB5.out hb6
     have hQ6:=below_more HQ5.out hb6
     have hs6:yb+1≤w6.heap.size:=by have:=hb6.size;omega
     obtain ⟨w7,hw7⟩:∃ y,y=w6.setCell ⟨yb,1,none⟩ (.slice da n2 dc):=⟨_,rfl⟩
     have hB7:Below w.heap.size w w7:=by rw [hw7];exact bel_set hB6 (p:=⟨yb,1,none⟩) (by show w.heap.size≤yb;omega) _
     have hQ7:Below wr.heap.size wr w7:=by rw [hw7];exact bel_set hQ6 (p:=⟨yb,1,none⟩) hyr _
     have hk7:∀ k,k<w6.heap.size→k≠yb→w7.heap[k]?=w6.heap[k]?:=fun k _ hne=>by rw [hw7];exact Below.heap_setCell _ _ _ _ hne
     have hs7:w7.heap.size=w6.heap.size:=by rw [hw7,setCell_size]
     have HY7:Hid (BlkAt w7 yb 55 #[.slice ca n1 cc,.slice da n2 dc,.bool xt,.int .i64 xh]):=by rw [hw7];exact HY6.out.set 1 _
     have HT7:Hid (BlkAt w7 wr.heap.size 55 #[.slice b1 n1 d1,.slice b2 n2 d2,.bool xt,.int .i64 xh]):=by rw [hw7];exact HT6.out.set_far hyt 1 _
     have HST6:Hid (StrsAt (hidden (offB wr.heap.size none) w7) (.slice da n2 dc) xr):=hst6.imp (hid_imp fun k hk hP=>by
      have h1:=offB_none.1 hP
      exact ⟨offB_none.2 (by omega),hk7 k hk (by omega)⟩)
     have HST5:Hid (StrsAt (hidden (offB wr.heap.size none) w7) (.slice ca n1 cc) xp):=HST4.out.imp (hid_imp fun k hk hP=>by
      obtain ⟨h1,h2⟩:=offB_no.1 hP
      exact ⟨offB_none.2 h1,(hk7 k (by have:=hb6.size;omega) (fun e=>h2 (by rw [e]))).trans (hb6.block k hk)⟩)
     have HW7:=Lib.hid hw7
     have HB7:=Lib.hid hB7
     have HQ7:=Lib.hid hQ7
     have HCAP:=Lib.hid hcap6
     obtain ⟨y0,y1,y2,y3,yf⟩:=b4' HY6.out
     obtain ⟨z0,z1,z2,z3,zf⟩:=b4' HY7.out
     rw [HW7.out] at z0 z1 z2 z3 zf
     clear hb6 hst6 hB6 hQ6 hw7 hB7 hQ7 hk7 HCL2 t0 t1 t2 t3 tf hcap6
     have ho7:=(HO.out.keep HQ7.out).1
     rw [← HV.out.1] at ho7
     have hnc:∀ j u,[Value.slice ca n1 cc,Value.slice da n2 dc,.bool xt,.int .i64 xh][j]?=some u→(w7.alloc (.cells #[.slice ca n1 cc,.slice da n2 dc,.bool xt,.int .i64 xh] 55)).cell? ((⟨w7.heap.size,0,none⟩:Addr).add j)=some u:=fun j u hj=>by
      have hadd:(⟨w7.heap.size,0,none⟩:Addr).add j=⟨w7.heap.size,j,none⟩:=by unfold Addr.add;split <;> simp_all
      rw [hadd,cell_al_eq _ _ _ _ _ rfl]
      simpa using hj
     have hone:∀ u ∈ [Value.slice ca n1 cc,Value.slice da n2 dc,.bool xt,.int .i64 xh],u.oneCell'=true:=fun u hu=>by
      simp only [List.mem_cons,List.not_mem_nil,or_false] at hu
      rcases hu with rfl | rfl | rfl | rfl <;> rfl
     have hvj:vn≤1000000:=by have:=HV.out;omega
     have hm1:vn+1≤maxLen:=by unfold maxLen;omega
     have hm2:(vn+1)*64≤140737488355328:=by omega
     have hm3:w.heap.size≤(w7.alloc (.cells #[.slice ca n1 cc,.slice da n2 dc,.bool xt,.int .i64 xh] 55)).heap.size:=by rw [size_al];have:=HB7.out.size;omega
     have HNC:=Lib.hid hnc
     have HONE:=Lib.hid hone
     have HM1:=Lib.hid hm1
     have HM2:=Lib.hid hm2
     have HM3:=Lib.hid hm3
     have HO7:=Lib.hid ho7
     rw [HW7.out] at HNC HM3 HO7
     rw [setCell_size] at HNC
     clear hnc hone hm1 hm2 hm3 ho7
     go_wp2_with (at_builtin;refine wpList_append_own_at _ rfl _ _ 23 rfl w.heap.size 55 i0 (.agg #[.slice none 0 0,.slice none 0 0,.bool false,.int .i64 0]) 4 64 Tryz.underlying23 HI.out HZ0.out HZ1.out HZ2.out rfl (by decide) _ _ _ rfl (World.ownsRow.alloc HO7.out _) ⟨_,0,none⟩ 1 1 [.slice ca n1 cc,.slice da n2 dc,.bool xt,.int .i64 xh] rfl rfl HNC.out HONE.out HM1.out HM2.out HM3.out ?_)
     intro v' w9 hown9 hgrow9 _ hat9
     rw [← HW7.out] at hgrow9
     have hat9:=hat9.imp_right (fun e:v'.ownBlock=some (w6.heap.size+1)=>(show v'.ownBlock=some (w7.alloc (.cells #[.slice ca n1 cc,.slice da n2 dc,.bool xt,.int .i64 xh] 55)).heap.size by rw [e,size_al,hs7]))
     obtain ⟨g9,p9,rfl,hg9,hg9'⟩:=World.ownsRow.form hown9 (by omega)
     have hown:∀ k,(Value.slice va vn vc).ownBlock=some k→w.heap.size≤k∧k<wr.heap.size:=fun k hk=>by
      have h1:=HO.out.1
      exact World.ownsRow.lt h1 k hk
     have hb9:Below w.heap.size w w9:=(bel_alloc HB7.out _).grown hgrow9 (by rw [size_al];have:=HB7.out.size;omega) (fun k hk=>(hown k hk).1)
     have hT9:BlkAt w9 wr.heap.size 55 #[.slice b1 n1 d1,.slice b2 n2 d2,.bool xt,.int .i64 xh]:=(hgrow9.block _ (by rw [size_al];have:=HT7.out.lt;omega) (fun e=>by have:=hown _ e.symm;omega)).trans (((bel_alloc (Below.refl _ w7) _).block _ HT7.out.lt).trans HT7.out)
     have hsn:MapsOwn w9 w.heap.size (.slice (some ⟨g9,0,none⟩) (vn+1) p9) (gs++[⟨⟨xp,xr,xt,xh⟩,ca,cc,da,dc⟩]):=by
      refine MapsOwn.snoc (g:=⟨⟨xp,xr,xt,xh⟩,ca,cc,da,dc⟩) HO.out (bel_alloc HQ7.out (.cells #[.slice ca n1 cc,.slice da n2 dc,.bool xt,.int .i64 xh] 55)) hwr ?_ hgrow9 hat9 ?_ ?_
      ·have h1:=hown9
       rw [HV.out.1] at h1 ⊢
       show w9.ownsRow _ _ _ _ _ (gxCells gs++[.slice ca xp.length cc,.slice da xr.length dc,.bool xt,.int .i64 xh])
       rw [HN1.out,HN2.out]
       exact h1
      ·show StrsAt _ (.slice ca xp.length cc) xp
       rw [HN1.out]
       exact HST5.out.imp (hid_imp fun k hk hP=>⟨hP,(bel_alloc (Below.refl _ w7) _).block k hk⟩)
      ·show StrsAt _ (.slice da xr.length dc) xr
       rw [HN2.out]
       exact HST6.out.imp (hid_imp fun k hk hP=>⟨hP,(bel_alloc (Below.refl _ w7) _).block k hk⟩)
     have HK9:Hid (∀ g ∈ gs++[(⟨⟨xp,xr,xt,xh⟩,ca,cc,da,dc⟩:GX)],g.x.repos.length≤g.c2):=fun g hg=>by
      rcases List.mem_append.1 hg with hg | hg
      ·exact HK.out g hg
      ·rw [List.mem_singleton.1 hg]
       show xr.length≤dc
       rw [HN2.out];exact HCAP.out
     have HS9:=Lib.hid hsn
     have HB9:=Lib.hid hb9
     have HV9:Hid (vn+1=(gs++[(⟨⟨xp,xr,xt,xh⟩,ca,cc,da,dc⟩:GX)]).length∧(gs++[(⟨⟨xp,xr,xt,xh⟩,ca,cc,da,dc⟩:GX)]).length≤j+1):=by
      have h1:=HV.out
      rw [List.length_append]
      exact ⟨by rw [h1.1];rfl,by have:=h1.2;simp only [List.length_cons,List.length_nil];omega⟩
     obtain ⟨t0,t1,t2,t3,tf⟩:=b4' hT9
     clear hown9 hgrow9 hat9 hown hb9 hT9 hsn HO HK HO7 HNC HONE HM1 HM2 HM3 y0 y1 y2 y3 yf z0 z1 z2 z3 zf HV
     have hst:=HSTT.out
     cases xt with
     | true =>
       rw [if_pos rfl] at hst
       have HFE:Hid ((gs++[(⟨⟨xp,xr,true,xh⟩,ca,cc,da,dc⟩:GX)]).map GX.x=forV hitB p l):=by
        have:=HF.out
        rw [hst] at this
        rw [List.map_append]
        exact this
       clear hst HSTT HF
       go_wp2_with fail
       go_ret
       exact ⟨_,p9,_,by rw [← HV9.out.1];(try rfl),HB9.out,by rw [← HV9.out.1];exact HS9.out,HFE.out,HK9.out⟩
     | false =>
       rw [if_neg (by decide)] at hst
       have HFE:Hid ((gs++[(⟨⟨xp,xr,false,xh⟩,ca,cc,da,dc⟩:GX)]).map GX.x++forV hitB p (l.drop (j+1))=forV hitB p l):=by
        have:=HF.out
        rw [hst] at this
        rw [List.map_append,List.append_assoc]
        exact this
       clear hst HSTT HF
       go_wp2_with fail
       exact ⟨⟨j+1,_,some ⟨g9,0,none⟩,vn+1,p9,by omega,by go_num,rfl,HV9,HS9,HK9,HFE,HB9⟩,by simp [intOf];omega⟩
  ·have hj1:¬ (j:Int)<(n:Int):=by omega
   have HFE:Hid (gs.map GX.x=forV hitB p l):=by
    have:=HF.out
    rw [List.drop_of_length_le (by rw [HN.out];omega),forV,List.append_nil] at this
    exact this
   clear HF
   go_wp2_with fail
   go_ret
   exact ⟨va,vc,gs,by rw [← HV.out.1];(try rfl),HB.out,by rw [← HV.out.1];exact HO.out,HFE.out,HK.out⟩
end
end Go.Proofs.YtchinankclckjaaGreatDoor
