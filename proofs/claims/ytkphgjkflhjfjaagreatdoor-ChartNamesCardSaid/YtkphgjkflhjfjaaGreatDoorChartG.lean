/-
 glob.one, match, Match, First, Any; chart.Matches: what the program's patterns stand for.
-/
import Derived.Test.YtkphgjkflhjfjaaGreatDoorChartA
import Derived.Test.YtkphgjkflhjfjaaGreatDoorGlobP
import Derived.LoopTactic
import Derived.WalkMore
import Derived.ScopeJumps
import Derived.Laws.IdiomStrings
namespace Go.Proofs.YtkphgjkflhjfjaaGreatDoor
set_option maxRecDepth 100000
open Go.RowKit
def runeGo (s:ByteArray):Nat → Nat → List Int
 | 0,_ => []
 | b + 1,i => if i < s.size then Int.ofNat (Utf8.decode s i).1 :: runeGo s b (i + (Utf8.decode s i).2) else []
def runesL (s:ByteArray):List Int:=runeGo s s.size 0
theorem runesFrom_eq (s:ByteArray):∀ (b i:Nat) (acc:Array Value),Conv.runesFrom s b i acc = acc ++ ((runeGo s b i).map (Value.int .i32)).toArray
 | 0,i,acc => by simp [Conv.runesFrom,runeGo]
 | b + 1,i,acc => by
   rw [Conv.runesFrom,runeGo]
   by_cases h:i < s.size
   ·rw [if_pos h,if_pos h]
    simp only
    rw [runesFrom_eq s b]
    simp
   ·rw [if_neg h,if_neg h]
    simp
theorem runeGo_len (s:ByteArray):∀ (b i:Nat),(runeGo s b i).length ≤ b
 | 0,i => by simp [runeGo]
 | b + 1,i => by
   rw [runeGo]
   by_cases h:i < s.size
   ·rw [if_pos h]
    have:=runeGo_len s b (i + (Utf8.decode s i).2)
    simp only [List.length_cons]
    omega
   ·rw [if_neg h]
    simp
def hitB (a p:ByteArray):Bool:=pathB a && pathB p && gM (runesL a) (runesL p)
set_option maxHeartbeats 2000000 in
theorem one_any (p r:Int) (w:World):Calls Tryz.prog 154 #[.int .i32 p,.int .i32 r] w fun e w' => e = .returned (.bool (gOne p r)) ∧ w' = w:=by
 unfold gOne
 by_cases h:p = 63
 ·rw [if_pos h]
  have e1:(p == 63) = true:=beq_iff_eq.2 h
  clear h
  go_enter Tryz.func154,Tryz.ntmps154
  go_wp2_with fail
  go_ret
  exact ⟨rfl,rfl⟩
 ·rw [if_neg h]
  have e1:(p == 63) = false:=beq_eq_false_iff_ne.2 h
  clear h
  go_enter Tryz.func154,Tryz.ntmps154
  go_wp2_with fail
  go_ret
  exact ⟨rfl,rfl⟩
theorem wp_scope_from {P:Program} {a:Act} {w:World} {Q:Exit → Act → World → Prop} {c rest:Code} (l:Nat) (J:Act → World → Prop) (μ:Act → World → Nat) (hf:findLabel c l = some (Code.skip.seq rest))
 (first:∀ X:Exit → Act → World → Prop,(∀ a' w',J a' w' → rest.wp P X a' w') → c.wp P X a w)
 (pass:∀ a w,J a w → rest.wp P (Exit.jump l (fun a' w' => J a' w' ∧ μ a' w' < μ a w) Q) a w):(Code.scope c).wp P Q a w:=by
 refine wp_scope_jumps l J μ hf (first _ fun a' w' hJ => ?_) fun a w hJ => wp_seq (wp_skip (pass a w hJ))
 intro b k cs
 obtain ⟨e,a1,w1,hq,har⟩:=pass a' w' hJ b k cs
 refine ⟨e,a1,w1,?_,har⟩
 cases e with
 | goto l' => exact ⟨hq.1,hq.2.1⟩
 | normal => exact hq
 | exit id => exact hq
 | ret => exact hq
 | panic ch => exact hq
 | outgrown => exact hq
def starOf (k:Int) (f:Nat) (st:Option (Nat × Nat)):Prop:=(k = -1 ∧ f = 0 ∧ st = none) ∨ ∃ n:Nat,k = n ∧ st = some (n,f)
def gFrame (p s:List Int) (bp bs P S cp cs:Nat) (w:World) (a':Act) (w':World):Prop :=
 ∃ (q i j f:Nat) (k:Int) (st:Option (Nat × Nat)) (u9 u10 u11 u12 u13 u14 u15 u16 u17 u18 u19 u20 u21 u22 u23 u24 u25 u26 u27 u28 u29 u30 u31 u32 u33 u34 u35 u36 u37 u38 u39 u40 u41 u42 u43 u44 u45 u46 u47 u48 u49 u50 u51 u52 u53 u54 u55 u56 u57 u58 u59 u60 u61 u62 u63 u64 u65 u66 u67 u68 u69 u70 u71 u72 u73 u74 u75 u76 u77 u78:Value),w' = w.drewN q ∧ starOf k f st ∧ Hid (GSt p s i j st) ∧ a' = { tmps:=#[.slice (some ⟨bp,0,none⟩) P cp,.slice (some ⟨bs,0,none⟩) S cs,undef,undef,.bool false,.int .i64 i,.int .i64 j,.int .i64 k,.int .i64 f,u9,u10,u11,u12,u13,u14,u15,u16,u17,u18,u19,u20,u21,u22,u23,u24,u25,u26,u27,u28,u29,u30,u31,u32,u33,u34,u35,u36,u37,u38,u39,u40,u41,u42,u43,u44,u45,u46,u47,u48,u49,u50,u51,u52,u53,u54,u55,u56,u57,u58,u59,u60,u61,u62,u63,u64,u65,u66,u67,u68,u69,u70,u71,u72,u73,u74,u75,u76,u77,u78],defers:=[] }
def gMu (a':Act) (_:World):Nat:=(1000 - (intOf (a'.tmps.getD 7 undef) + 1).toNat) * 1000000 + (1000 - (intOf (a'.tmps.getD 8 undef)).toNat) * 1000 + (1000 - (intOf (a'.tmps.getD 5 undef)).toNat)
theorem starOf_lt {p s:List Int} {i j f:Nat} {k:Int} {st:Option (Nat × Nat)} (h:starOf k f st) (hg:GSt p s i j st):-1 ≤ k ∧ k < (p.length:Int) ∧ f ≤ s.length ∧ i ≤ p.length ∧ j ≤ s.length ∧ (k < (i:Int)):=by
 have h1:=hg.ip
 have h2:=hg.js
 rcases h with ⟨rfl,rfl,rfl⟩ | ⟨n,rfl,rfl⟩
 ·omega
 ·obtain ⟨h3,h4,h5,-⟩:=hg.atSome n f rfl
  have:=(List.getElem?_eq_some_iff.1 h3).1
  omega
set_option maxRecDepth 1000000 in
set_option maxHeartbeats 16000000 in
theorem gMatch_any (p s:List Int) (bp bs P S cp cs:Nat) (w:World) (hP:p.length = P) (hS:s.length = S) (h1:P ≤ 256) (h2:S ≤ 256)
 (hp:∀ i c,p[i]? = some c → w.cell? ⟨bp,i,none⟩ = some (.int .i32 c)) (hs:∀ i c,s[i]? = some c → w.cell? ⟨bs,i,none⟩ = some (.int .i32 c)) :
 Calls Tryz.prog 133 #[.slice (some ⟨bp,0,none⟩) P cp,.slice (some ⟨bs,0,none⟩) S cs] w fun e w' => e = .returned (.bool (gM p s)) ∧ ∃ m,w' = w.drewN m:=by
 obtain ⟨r,hr⟩:∃ r,gM p s = r:=⟨_,rfl⟩
 rw [hr]
 have HR:=Lib.hid hr
 have HPP:=Lib.hid hP
 have HSS:=Lib.hid hS
 have HPC:=Lib.hid hp
 have HSC:=Lib.hid hs
 clear hr hP hS hp hs
 go_enter Tryz.func133,Tryz.ntmps133
 go_wp2_with fail
 refine wp_scope_from 0 (gFrame p s bp bs P S cp cs w) gMu rfl ?_ ?_
 ·intro X hX
  go_wp2_with fail
  go_step3
  rename_i hK
  refine hK _ _ (hX _ _ ?_)
  exact ⟨0,0,0,0,-1,none,_,_,_,_,_,_,_,_,_,_,_,_,_,_,_,_,_,_,_,_,_,_,_,_,_,_,_,_,_,_,_,_,_,_,_,_,_,_,_,_,_,_,_,_,_,_,_,_,_,_,_,_,_,_,_,_,_,_,_,_,_,_,_,_,_,_,_,_,_,_,rfl,Or.inl ⟨rfl,rfl,rfl⟩,GSt.start p s,rfl⟩
 ·rintro a' w' ⟨q,i,j,f,k,st,u9,u10,u11,u12,u13,u14,u15,u16,u17,u18,u19,u20,u21,u22,u23,u24,u25,u26,u27,u28,u29,u30,u31,u32,u33,u34,u35,u36,u37,u38,u39,u40,u41,u42,u43,u44,u45,u46,u47,u48,u49,u50,u51,u52,u53,u54,u55,u56,u57,u58,u59,u60,u61,u62,u63,u64,u65,u66,u67,u68,u69,u70,u71,u72,u73,u74,u75,u76,u77,u78,rfl,hst,HG,rfl⟩
  obtain ⟨b1,b2,b3,b4,b5,b6⟩:=starOf_lt hst HG.out
  rw [HPP.out] at b2 b4
  rw [HSS.out] at b3 b5
  have i0:(0:Int) ≤ (i:Int):=by omega
  have j0:(0:Int) ≤ (j:Int):=by omega
  have HST:=Lib.hid hst
  clear hst
  by_cases hiP:i = P
  ·have e1:((i:Int) == (P:Int)) = true:=by rw [hiP]; simp
   have d1:¬ (i:Int) < (P:Int):=by omega
   have d1':decide ((i:Int) < (P:Int)) = false:=decide_eq_false d1
   have d1n:decide (i < P) = false:=decide_eq_false (by omega)
   by_cases hjS:j = S
   ·have e2:((j:Int) == (S:Int)) = true:=by rw [hjS]; simp
    obtain rfl:true = r:=by
     have h:=HG.out
     rw [hiP,hjS,← HPP.out,← HSS.out] at h
     rw [← HR.out,h.done]
    clear hiP hjS
    go_wp2_with fail
    simp only [Exit.jump]
    go_ret
    exact ⟨rfl,_,rfl⟩
   ·have e2:((j:Int) == (S:Int)) = false:=beq_eq_false_iff_ne.2 (by omega)
    have HNO:Hid (GNo p s i j):=⟨fun h => hjS (by rw [h.2,HSS.out]),fun h => by have:=(List.getElem?_eq_some_iff.1 h).1; rw [HPP.out] at this; omega,fun a c ha => by have:=(List.getElem?_eq_some_iff.1 ha).1; rw [HPP.out] at this; omega⟩
    clear hjS hiP
    go_wp2_with fail
    go_quiet (fail)
    rcases HST.out with ⟨rfl,rfl,rfl⟩ | ⟨n,rfl,rfl⟩
    ·obtain rfl:false = r:=by rw [← HR.out,HG.out.fail_none HNO.out]
     go_wp2_with fail
     simp only [Exit.jump]
     go_ret
     exact ⟨rfl,_,rfl⟩
    ·have n0:¬ (n:Int) < 0:=by omega
     have g0:decide ((n:Int) < 0) = false:=decide_eq_false n0
     have f0:(0:Int) ≤ (f:Int):=by omega
     by_cases hfS:f = S
     ·obtain rfl:false = r:=by rw [← HR.out,HG.out.fail_end HNO.out (Or.inl (List.getElem?_eq_none_iff.2 (by rw [HSS.out]; omega)))]
      have g1:((f:Int) == (S:Int)) = true:=by rw [hfS]; simp
      clear hfS
      go_wp2_with fail
      simp only [Exit.jump]
      go_ret
      exact ⟨rfl,_,rfl⟩
     ·have g1:((f:Int) == (S:Int)) = false:=beq_eq_false_iff_ne.2 (by omega)
      have f1:(f:Int) < (S:Int):=by omega
      obtain ⟨c,hc⟩:∃ c,s[f]? = some c:=⟨_,List.getElem?_eq_getElem (by rw [HSS.out]; omega)⟩
      have hcf:=HSC.out f c hc
      have HCF:=Lib.hid hc
      clear hc hfS
      by_cases h47:c = 47
      ·obtain rfl:false = r:=by rw [← HR.out,HG.out.fail_end HNO.out (Or.inr (by rw [HCF.out,h47]))]
       have g2:(c == 47) = true:=beq_iff_eq.2 h47
       clear h47
       go_wp2_with fail
       simp only [Exit.jump]
       go_ret
       exact ⟨rfl,_,rfl⟩
      ·have g2:(c == 47) = false:=beq_eq_false_iff_ne.2 h47
       have HG2:=Lib.hid (HG.out.again HNO.out HCF.out h47)
       have w1:IntKind.i64.wrap ((f:Int) + 1) = ((f + 1:Nat):Int):=by rw [IntWalk.i64_in _ (by omega)]; omega
       have w2:IntKind.i64.wrap ((n:Int) + 1) = ((n + 1:Nat):Int):=by rw [IntWalk.i64_in _ (by omega)]; omega
       clear h47
       go_wp2_with fail
       go_step3
       (try simp only [w1,w2])
       exact ⟨rfl,⟨_,n + 1,f + 1,f + 1,n,some (n,f + 1),_,_,_,_,_,_,_,_,_,_,_,_,_,_,_,_,_,_,_,_,_,_,_,_,_,_,_,_,_,_,_,_,_,_,_,_,_,_,_,_,_,_,_,_,_,_,_,_,_,_,_,_,_,_,_,_,_,_,_,_,_,_,_,_,_,_,_,_,_,_,rfl,Or.inr ⟨n,rfl,rfl⟩,HG2,rfl⟩,by simp [gMu,intOf]; omega⟩
  ·have e1:((i:Int) == (P:Int)) = false:=beq_eq_false_iff_ne.2 (by omega)
   have d1:(i:Int) < (P:Int):=by omega
   have d1n:decide (i < P) = true:=decide_eq_true (by omega)
   obtain ⟨a,ha⟩:∃ c,p[i]? = some c:=⟨_,List.getElem?_eq_getElem (by rw [HPP.out]; omega)⟩
   have hca:=HPC.out i a ha
   have HA:=Lib.hid ha
   clear ha
   by_cases h42:a = 42
   ·subst h42
    have HG2:=Lib.hid (HG.out.star HA.out)
    have w1:IntKind.i64.wrap ((i:Int) + 1) = ((i + 1:Nat):Int):=by rw [IntWalk.i64_in _ (by omega)]; omega
    clear hiP
    go_wp2_with fail
    go_step3
    (try simp only [w1])
    exact ⟨rfl,⟨_,i + 1,j,j,i,some (i,j),_,_,_,_,_,_,_,_,_,_,_,_,_,_,_,_,_,_,_,_,_,_,_,_,_,_,_,_,_,_,_,_,_,_,_,_,_,_,_,_,_,_,_,_,_,_,_,_,_,_,_,_,_,_,_,_,_,_,_,_,_,_,_,_,_,_,_,_,_,_,rfl,Or.inr ⟨i,rfl,rfl⟩,HG2,rfl⟩,by simp [gMu,intOf]; omega⟩
   ·have e42:(a == 42) = false:=beq_eq_false_iff_ne.2 h42
    by_cases hjS:j < S
    ·have d2:(j:Int) < (S:Int):=by omega
     have d2n:decide (j < S) = true:=decide_eq_true hjS
     obtain ⟨c,hc⟩:∃ c,s[j]? = some c:=⟨_,List.getElem?_eq_getElem (by rw [HSS.out]; omega)⟩
     have hcc:=HSC.out j c hc
     have HC:=Lib.hid hc
     clear hc
     cases ho:gOne a c with
     | true =>
       have HG2:=Lib.hid (HG.out.one HA.out HC.out h42 ho)
       have HO:=Lib.hid (fun W => one_any a c W)
       rw [ho] at HO
       have w1:IntKind.i64.wrap ((i:Int) + 1) = ((i + 1:Nat):Int):=by rw [IntWalk.i64_in _ (by omega)]; omega
       have w2:IntKind.i64.wrap ((j:Int) + 1) = ((j + 1:Nat):Int):=by rw [IntWalk.i64_in _ (by omega)]; omega
       clear hiP h42 ho hjS
       go_wp2_with fail
       go_quiet ((go_at_call 154; refine (HO.out _).mono ?_; rintro e w2 ⟨rfl,rfl⟩; exact ⟨rfl,_,rfl⟩))
       go_wp2_with fail
       go_step3
       (try simp only [w1,w2])
       exact ⟨rfl,⟨_,i + 1,j + 1,f,k,st,_,_,_,_,_,_,_,_,_,_,_,_,_,_,_,_,_,_,_,_,_,_,_,_,_,_,_,_,_,_,_,_,_,_,_,_,_,_,_,_,_,_,_,_,_,_,_,_,_,_,_,_,_,_,_,_,_,_,_,_,_,_,_,_,_,_,_,_,_,_,rfl,HST.out,HG2,rfl⟩,by simp [gMu,intOf]; omega⟩
     | false =>
       have HNO:Hid (GNo p s i j):=⟨fun h => hiP (by rw [h.1,HPP.out]),fun h => h42 (by rw [HA.out] at h; exact Option.some.inj h),fun a' c' ha' hc' => by rw [HA.out] at ha'; rw [HC.out] at hc'; cases ha'; cases hc'; exact ho⟩
       have HO:=Lib.hid (fun W => one_any a c W)
       rw [ho] at HO
       clear hiP h42 ho hjS
       go_wp2_with fail
       go_quiet ((go_at_call 154; refine (HO.out _).mono ?_; rintro e w2 ⟨rfl,rfl⟩; exact ⟨rfl,_,rfl⟩))
       rcases HST.out with ⟨rfl,rfl,rfl⟩ | ⟨n,rfl,rfl⟩
       ·obtain rfl:false = r:=by rw [← HR.out,HG.out.fail_none HNO.out]
        go_wp2_with fail
        simp only [Exit.jump]
        go_ret
        exact ⟨rfl,_,rfl⟩
       ·have n0:¬ (n:Int) < 0:=by omega
        have g0:decide ((n:Int) < 0) = false:=decide_eq_false n0
        have f0:(0:Int) ≤ (f:Int):=by omega
        by_cases hfS:f = S
        ·obtain rfl:false = r:=by rw [← HR.out,HG.out.fail_end HNO.out (Or.inl (List.getElem?_eq_none_iff.2 (by rw [HSS.out]; omega)))]
         have g1:((f:Int) == (S:Int)) = true:=by rw [hfS]; simp
         clear hfS
         go_wp2_with fail
         simp only [Exit.jump]
         go_ret
         exact ⟨rfl,_,rfl⟩
        ·have g1:((f:Int) == (S:Int)) = false:=beq_eq_false_iff_ne.2 (by omega)
         have f1:(f:Int) < (S:Int):=by omega
         obtain ⟨c,hc⟩:∃ c,s[f]? = some c:=⟨_,List.getElem?_eq_getElem (by rw [HSS.out]; omega)⟩
         have hcf:=HSC.out f c hc
         have HCF:=Lib.hid hc
         clear hc hfS
         by_cases h47:c = 47
         ·obtain rfl:false = r:=by rw [← HR.out,HG.out.fail_end HNO.out (Or.inr (by rw [HCF.out,h47]))]
          have g2:(c == 47) = true:=beq_iff_eq.2 h47
          clear h47
          go_wp2_with fail
          simp only [Exit.jump]
          go_ret
          exact ⟨rfl,_,rfl⟩
         ·have g2:(c == 47) = false:=beq_eq_false_iff_ne.2 h47
          have HG2:=Lib.hid (HG.out.again HNO.out HCF.out h47)
          have w1:IntKind.i64.wrap ((f:Int) + 1) = ((f + 1:Nat):Int):=by rw [IntWalk.i64_in _ (by omega)]; omega
          have w2:IntKind.i64.wrap ((n:Int) + 1) = ((n + 1:Nat):Int):=by rw [IntWalk.i64_in _ (by omega)]; omega
          clear h47
          go_wp2_with fail
          go_step3
          (try simp only [w1,w2])
          exact ⟨rfl,⟨_,n + 1,f + 1,f + 1,n,some (n,f + 1),_,_,_,_,_,_,_,_,_,_,_,_,_,_,_,_,_,_,_,_,_,_,_,_,_,_,_,_,_,_,_,_,_,_,_,_,_,_,_,_,_,_,_,_,_,_,_,_,_,_,_,_,_,_,_,_,_,_,_,_,_,_,_,_,_,_,_,_,_,_,rfl,Or.inr ⟨n,rfl,rfl⟩,HG2,rfl⟩,by simp [gMu,intOf]; omega⟩
    ·have d2:¬ (j:Int) < (S:Int):=by omega
     have d2':decide ((j:Int) < (S:Int)) = false:=decide_eq_false d2
     have d2n:decide (j < S) = false:=decide_eq_false hjS
     have HNO:Hid (GNo p s i j):=⟨fun h => hiP (by rw [h.1,HPP.out]),fun h => h42 (by rw [HA.out] at h; exact Option.some.inj h),fun a' c' _ hc' => by have:=(List.getElem?_eq_some_iff.1 hc').1; rw [HSS.out] at this; omega⟩
     clear hiP h42 hjS
     go_wp2_with fail
     go_quiet (fail)
     rcases HST.out with ⟨rfl,rfl,rfl⟩ | ⟨n,rfl,rfl⟩
     ·obtain rfl:false = r:=by rw [← HR.out,HG.out.fail_none HNO.out]
      go_wp2_with fail
      simp only [Exit.jump]
      go_ret
      exact ⟨rfl,_,rfl⟩
     ·have n0:¬ (n:Int) < 0:=by omega
      have g0:decide ((n:Int) < 0) = false:=decide_eq_false n0
      have f0:(0:Int) ≤ (f:Int):=by omega
      by_cases hfS:f = S
      ·obtain rfl:false = r:=by rw [← HR.out,HG.out.fail_end HNO.out (Or.inl (List.getElem?_eq_none_iff.2 (by rw [HSS.out]; omega)))]
       have g1:((f:Int) == (S:Int)) = true:=by rw [hfS]; simp
       clear hfS
       go_wp2_with fail
       simp only [Exit.jump]
       go_ret
       exact ⟨rfl,_,rfl⟩
      ·have g1:((f:Int) == (S:Int)) = false:=beq_eq_false_iff_ne.2 (by omega)
       have f1:(f:Int) < (S:Int):=by omega
       obtain ⟨c,hc⟩:∃ c,s[f]? = some c:=⟨_,List.getElem?_eq_getElem (by rw [HSS.out]; omega)⟩
       have hcf:=HSC.out f c hc
       have HCF:=Lib.hid hc
       clear hc hfS
       by_cases h47:c = 47
       ·obtain rfl:false = r:=by rw [← HR.out,HG.out.fail_end HNO.out (Or.inr (by rw [HCF.out,h47]))]
        have g2:(c == 47) = true:=beq_iff_eq.2 h47
        clear h47
        go_wp2_with fail
        simp only [Exit.jump]
        go_ret
        exact ⟨rfl,_,rfl⟩
       ·have g2:(c == 47) = false:=beq_eq_false_iff_ne.2 h47
        have HG2:=Lib.hid (HG.out.again HNO.out HCF.out h47)
        have w1:IntKind.i64.wrap ((f:Int) + 1) = ((f + 1:Nat):Int):=by rw [IntWalk.i64_in _ (by omega)]; omega
        have w2:IntKind.i64.wrap ((n:Int) + 1) = ((n + 1:Nat):Int):=by rw [IntWalk.i64_in _ (by omega)]; omega
        clear h47
        go_wp2_with fail
        go_step3
        (try simp only [w1,w2])
        exact ⟨rfl,⟨_,n + 1,f + 1,f + 1,n,some (n,f + 1),_,_,_,_,_,_,_,_,_,_,_,_,_,_,_,_,_,_,_,_,_,_,_,_,_,_,_,_,_,_,_,_,_,_,_,_,_,_,_,_,_,_,_,_,_,_,_,_,_,_,_,_,_,_,_,_,_,_,_,_,_,_,_,_,_,_,_,_,_,_,rfl,Or.inr ⟨n,rfl,rfl⟩,HG2,rfl⟩,by simp [gMu,intOf]; omega⟩
theorem convR (w:World) (s:ByteArray) (hs:s.size ≤ 256):∃ (b c:Nat) (w2:World),(convert 9 180 (.string s)).run Tryz.prog w = .ok (.slice (some ⟨b,0,none⟩) (runesL s).length c) w2 ∧ Below w.heap.size w w2 ∧ ∀ i x,(runesL s)[i]? = some x → w2.cell? ⟨b,i,none⟩ = some (.int .i32 x):=by
 have e:=runesFrom_eq s s.size 0 #[]
 simp only [Array.empty_append] at e
 have hl:(Conv.runesFrom s s.size 0 #[]).size = (runesL s).length:=by rw [e]; simp [runesL]
 have hlen:=runeGo_len s s.size 0
 have h:=run_runes_of_string w 9 180 21 s Tryz.underlying9 Tryz.underlying180 Tryz.underlying21 (by rw [hl]; unfold runesL; omega)
 rw [hl] at h
 refine ⟨_,_,_,h,bel_alloc (bel_drew (Below.refl _ _)) _,fun i x hx => ?_⟩
 refine (cell_al_eq w.drew _ _ _ i rfl).trans ?_
 rw [e]
 have hi:=(List.getElem?_eq_some_iff.1 hx).1
 rw [Array.getElem?_append_left (by simp [runesL] at hi ⊢; exact hi)]
 simp only [List.getElem?_toArray,List.getElem?_map]
 unfold runesL at hx
 rw [hx]
 rfl
theorem pathB_size {s:ByteArray} (h:pathB s = true):s.size ≤ 256:=by
 unfold pathB at h
 simp only [Bool.and_eq_true,decide_eq_true_eq] at h
 exact h.1.1.2
set_option maxHeartbeats 4000000 in
theorem Match_any (a p:ByteArray) (w:World) (ha:a.size ≤ maxLen) (hp:p.size ≤ maxLen) :
 Calls Tryz.prog 108 #[.string a,.string p] w fun e w' => e = .returned (.bool (hitB a p)) ∧ Below w.heap.size w w':=by
 have HP1:=Lib.hid (fun W => pattern_any a W ha)
 have HP2:=Lib.hid (fun W => path_any p W hp)
 unfold hitB
 cases h1:pathB a with
 | false =>
   rw [h1] at HP1
   clear h1
   go_enter Tryz.func108,Tryz.ntmps108
   go_wp2_with fail
   refine (HP1.out _).mono ?_
   rintro e w2 ⟨rfl,hb⟩
   have HB:=Lib.hid hb
   clear hb
   go_wp2_with fail
   go_ret
   exact ⟨rfl,HB.out⟩
 | true =>
   cases h2:pathB p with
   | false =>
     rw [h1] at HP1
     rw [h2] at HP2
     clear h1 h2
     go_enter Tryz.func108,Tryz.ntmps108
     go_wp2_with fail
     refine (HP1.out _).mono ?_
     rintro e w2 ⟨rfl,hb⟩
     have HB:=Lib.hid hb
     clear hb
     go_wp2_with fail
     refine (HP2.out _).mono ?_
     rintro e w3 ⟨rfl,hb⟩
     have HB2:=Lib.hid (below_more HB.out hb)
     clear hb
     go_wp2_with fail
     go_ret
     exact ⟨rfl,HB2.out⟩
   | true =>
     have z1:=pathB_size h1
     have z2:=pathB_size h2
     have l1:=runeGo_len a a.size 0
     have l2:=runeGo_len p p.size 0
     have HL1:Hid ((runesL a).length ≤ 256):=Nat.le_trans l1 z1
     have HL2:Hid ((runesL p).length ≤ 256):=Nat.le_trans l2 z2
     have HZ1:=Lib.hid z1
     have HZ2:=Lib.hid z2
     rw [h1] at HP1
     rw [h2] at HP2
     clear h1 h2 z1 z2 l1 l2
     go_enter Tryz.func108,Tryz.ntmps108
     go_wp2_with fail
     refine (HP1.out _).mono ?_
     rintro e w2 ⟨rfl,hb⟩
     have HB:=Lib.hid hb
     clear hb
     go_wp2_with fail
     refine (HP2.out _).mono ?_
     rintro e w3 ⟨rfl,hb⟩
     have HB2:=Lib.hid (below_more HB.out hb)
     clear hb
     obtain ⟨b1,c1,w4,hc1,hb4,hr4⟩:=convR w3 a HZ1.out
     obtain ⟨b2,c2,w5,hc2,hb5,hr5⟩:=convR w4 p HZ2.out
     have HG:=Lib.hid (gMatch_any (runesL a) (runesL p) b1 b2 _ _ c1 c2 w5 rfl rfl HL1.out HL2.out (fun i x hx => cell_keep hb5 (hr4 i x hx)) hr5)
     have HB5:=Lib.hid (below_more (below_more HB2.out hb4) hb5)
     clear hb4 hb5 hr4 hr5
     go_wp2_with fail
     refine HG.out.mono ?_
     rintro e w6 ⟨rfl,m,rfl⟩
     go_wp2_with fail
     go_ret
     exact ⟨rfl,below_drewN HB5.out _⟩
theorem any_step {α:Type} {l:List α} {f:α → Bool} {k:Nat} {s:α} (hs:l[k]? = some s) (ha:(l.take k).any f = false) (hf:f s = false):(l.take (k + 1)).any f = false:=by
 rw [List.take_add_one,hs,List.any_append,ha]
 simp [hf]
set_option maxHeartbeats 4000000 in
theorem First_any (l:List ByteArray) (p:ByteArray) (v:Value) (w:World) (h:StrsAt w v l) (hp:p.size ≤ maxLen) :
 Calls Tryz.prog 84 #[v,.string p] w fun e w' => (∃ k:Int,e = .returned (.tuple #[.int .i64 k,.bool (anyH hitB l p)])) ∧ Below w.heap.size w w':=by
 obtain ⟨a,cap,rfl,hl,hm,hc⟩:=h.parts
 obtain ⟨n,hn⟩:∃ n,l.length = n:=⟨_,rfl⟩
 obtain ⟨r,hr⟩:∃ r,anyH hitB l p = r:=⟨_,rfl⟩
 rw [hn] at hl ⊢
 rw [hr]
 unfold anyH at hr
 have HR:=Lib.hid hr
 have HC:=Lib.hid hc
 have HM:=Lib.hid hm
 have HN:=Lib.hid hn
 have HPS:=Lib.hid hp
 clear h hc hm hn hr hp
 go_enter Tryz.func84,Tryz.ntmps84
 go_wp2_with fail
 go_loopw [10] (fun i wr => ∃ k:Nat,k ≤ n ∧ i = .int .i64 k ∧ Hid ((l.take k).any (fun a => hitB a p) = false) ∧ Hid (Below w.heap.size w wr)) (fun i _ => n - (intOf i).toNat)
 case atStart => exact ⟨0,by omega,rfl,by show _ = _; simp,Below.refl _ _⟩
 case round =>
  obtain ⟨k,hk,rfl,HA,HB⟩:=hrel
  by_cases hlt:k < n
  ·obtain ⟨s,hs⟩:∃ s,l[k]? = some s:=⟨_,List.getElem?_eq_getElem (by rw [HN.out]; exact hlt)⟩
   obtain ⟨b,o,rfl,hcs⟩:=HC.out k s hs
   have hcs2:=cell_keep HB.out hcs
   have HP:=Lib.hid (fun W => Match_any s p W (HM.out s (List.mem_of_getElem? hs)) HPS.out)
   have j0:(0:Int) ≤ (k:Int):=by omega
   have j1:(k:Int) < (n:Int):=by omega
   cases hh:hitB s p with
   | false =>
     have HA2:=Lib.hid (any_step hs HA.out hh)
     rw [hh] at HP
     clear hs hcs hh HA
     go_wp2_with fail
     refine (HP.out _).mono ?_
     rintro e w2 ⟨rfl,hb⟩
     have HB2:=Lib.hid (below_more HB.out hb)
     clear hb
     go_wp2_with fail
     exact ⟨⟨k + 1,by omega,by go_num,HA2,HB2⟩,by simp [intOf]; omega⟩
   | true =>
     obtain rfl:true = r:=by
      rw [← HR.out,Eq.comm,List.any_eq_true]
      exact ⟨s,List.mem_of_getElem? hs,hh⟩
     rw [hh] at HP
     clear hs hcs hh HA
     go_wp2_with fail
     refine (HP.out _).mono ?_
     rintro e w2 ⟨rfl,hb⟩
     have HB2:=Lib.hid (below_more HB.out hb)
     clear hb
     go_wp2_with fail
     go_ret2
     exact ⟨⟨_,rfl⟩,HB2.out⟩
  ·have hall:=HA.out
   rw [List.take_of_length_le (by rw [HN.out]; omega),HR.out] at hall
   subst hall
   have j1:¬ (k:Int) < (n:Int):=by omega
   clear HA
   go_wp2_with fail
   go_ret2
   exact ⟨⟨_,rfl⟩,HB.out⟩
set_option maxHeartbeats 2000000 in
theorem gAny_any (l:List ByteArray) (p:ByteArray) (v:Value) (w:World) (h:StrsAt w v l) (hp:p.size ≤ maxLen) :
 Calls Tryz.prog 54 #[v,.string p] w fun e w' => e = .returned (.bool (anyH hitB l p)) ∧ Below w.heap.size w w':=by
 have HF:=Lib.hid (First_any l p v w h hp)
 clear h hp
 go_enter Tryz.func54,Tryz.ntmps54
 go_wp2_with fail
 refine HF.out.mono ?_
 rintro e w2 ⟨⟨k,rfl⟩,hb⟩
 have HB:=Lib.hid hb
 clear hb
 go_wp2_with fail
 go_ret
 exact ⟨rfl,HB.out⟩
set_option maxHeartbeats 2000000 in
theorem Matches_any (x:MapgP) (p:ByteArray) (a1 a2:Option Addr) (n1 c1 n2 c2:Nat) (w:World) (h:StrsAt w (.slice a1 n1 c1) x.paths) (hp:p.size ≤ maxLen) :
 Calls Tryz.prog 22 #[.agg #[.slice a1 n1 c1,.slice a2 n2 c2,.bool x.term,.int .i64 x.thr],.string p] w fun e w' => e = .returned (.bool (anyH hitB x.paths p)) ∧ Below w.heap.size w w':=by
 have hb1:Below w.heap.size w (w.alloc (.cells #[.slice a1 n1 c1,.slice a2 n2 c2,.bool x.term,.int .i64 x.thr] 50)):=bel_alloc (Below.refl _ _) _
 have HF:=Lib.hid (gAny_any x.paths p (.slice a1 n1 c1) _ (h.keep hb1) hp)
 have HB1:=Lib.hid hb1
 clear h hp hb1
 go_enter Tryz.func22,Tryz.ntmps22
 go_wp2_with fail
 refine HF.out.mono ?_
 rintro e w2 ⟨rfl,hb⟩
 have HB:=Lib.hid (below_more HB1.out hb)
 clear hb
 go_wp2_with fail
 go_ret
 exact ⟨rfl,HB.out⟩
end Go.Proofs.YtkphgjkflhjfjaaGreatDoor
