/-
  legatelaw25.whole and mapping: the texts of the examples.
  The examples of legatelaw25.awake plainly.
-/
import Derived.Test.YtchinankclckjaaGreatDoorChartA
import Derived.Test.YtchinankclckjaaGreatDoorChartQ
import Derived.Test.YtchinankclckjaaGreatDoorChartE
namespace Go.Proofs.YtchinankclckjaaGreatDoor
set_option maxHeartbeats 4000000
section
set_option maxRecDepth 100000
open Go.RowKit
def wholeT (a b:ByteArray):ByteArray:=(((((⟨#[123,34,109,97,112,112,105,110,103,34,58,91]⟩:ByteArray)++a)++(⟨#[93,44,34,114,101,112,111,115,105,116,111,114,105,101,115,34,58,123]⟩:ByteArray))++b)++(⟨#[125,125]⟩:ByteArray))
def mappingT (a b c:ByteArray):ByteArray:=(((((((⟨#[123,34,112,97,116,104,115,34,58,91]⟩:ByteArray)++a)++(⟨#[93,44,34,114,101,112,111,115,105,116,111,114,105,101,115,34,58,91]⟩:ByteArray))++b)++(⟨#[93,44,34,116,101,114,109,105,110,97,116,105,110,103,34,58,116,114,117,101,44,34,116,104,114,101,115,104,111,108,100,34,58]⟩:ByteArray))++c)++(⟨#[125]⟩:ByteArray))
theorem whole25_any (a b:ByteArray) (w:World) (ha:a.size≤1000000) (hb:b.size≤1000000) :
 Calls Tryz.prog 22 #[.string a,.string b] w fun e w'=>e=.returned (.string (wholeT a b))∧w=w':=by
 have g1:¬ 9223372036854775807<12+a.size:=by omega
 have g2:¬ 9223372036854775807<12+a.size+18:=by omega
 have g3:¬ 9223372036854775807<12+a.size+18+b.size:=by omega
 have g4:¬ 9223372036854775807<12+a.size+18+b.size+2:=by omega
 unfold wholeT
 clear ha hb
 go_enter Tryz.func22,Tryz.ntmps22
 go_wp2_with fail
 go_ret
 exact ⟨rfl,rfl⟩
theorem mapping25_any (a b c:ByteArray) (w:World) (ha:a.size≤1000000) (hb:b.size≤1000000) (hc:c.size≤1000000) :
 Calls Tryz.prog 23 #[.string a,.string b,.string c] w fun e w'=>e=.returned (.string (mappingT a b c))∧w=w':=by
 have g1:¬ 9223372036854775807<10+a.size:=by omega
 have g2:¬ 9223372036854775807<10+a.size+18:=by omega
 have g3:¬ 9223372036854775807<10+a.size+18+b.size:=by omega
 have g4:¬ 9223372036854775807<10+a.size+18+b.size+33:=by omega
 have g5:¬ 9223372036854775807<10+a.size+18+b.size+33+c.size:=by omega
 have g6:¬ 9223372036854775807<10+a.size+18+b.size+33+c.size+1:=by omega
 unfold mappingT
 clear ha hb hc
 go_enter Tryz.func23,Tryz.ntmps23
 go_wp2_with fail
 go_ret
 exact ⟨rfl,rfl⟩
def textsGo:Nat→List ByteArray→Nat
 | n,[]=>n
 | n,s :: r=>if n<20000 then textsGo (n+5+min 20000 s.size) r else n
def textsN (l:List ByteArray):Nat:=textsGo 0 l
theorem textsGo_step {l:List ByteArray} {k n:Nat} {s:ByteArray} (h:l[k]?=some s):textsGo n (l.drop k)=if n<20000 then textsGo (n+5+min 20000 s.size) (l.drop (k+1)) else n:=by
 obtain ⟨h1,h2⟩:=List.getElem?_eq_some_iff.1 h
 rw [List.drop_eq_getElem_cons h1,h2,textsGo]
theorem texts_any (l:List ByteArray) (v:Value) (w:World) (h:StrsAt w v l) :
 Calls Tryz.prog 16 #[v] w fun e w'=>e=.returned (.int .i64 (textsN l))∧w=w':=by
 obtain ⟨a,cap,rfl,hl,hm,hc⟩:=h.parts
 obtain ⟨n,hn⟩:∃ n,l.length=n:=⟨_,rfl⟩
 obtain ⟨R,hR⟩:∃ R,textsN l=R:=⟨_,rfl⟩
 rw [hn] at hl ⊢
 rw [hR]
 have HR:Hid (textsGo 0 (l.drop 0)=R):=hR
 have HC:=Lib.hid hc
 have HM:=Lib.hid hm
 have HN:=Lib.hid hn
 clear h hc hm hn hR
 go_enter Tryz.func16,Tryz.ntmps16
 go_wp2_with fail
 go_loopw [3,4] (fun nv i wr=>∃ k m:Nat,k≤n∧nv=.int .i64 m∧i=.int .i64 k∧w=wr∧m≤60000∧Hid (textsGo m (l.drop k)=R)) (fun _ i _=>n - (intOf i).toNat)
 case atStart=>exact ⟨0,0,by omega,rfl,rfl,rfl,by omega,HR.out⟩
 case round =>
  obtain ⟨k,m,hk,rfl,rfl,rfl,hm6,HT⟩:=hrel
  by_cases hkn:k<n
  ·obtain ⟨s,hs⟩:∃ s,l[k]?=some s:=⟨_,List.getElem?_eq_getElem (by rw [HN.out];exact hkn)⟩
   obtain ⟨b,o,rfl,hcs⟩:=HC.out k s hs
   have hz:=HM.out s (List.mem_of_getElem? hs)
   have hst:=HT.out
   rw [textsGo_step hs] at hst
   have i0:(0:Int)≤(k:Int):=by omega
   have i1:(k:Int)<(n:Int):=by omega
   have i2:decide ((k:Int)<(n:Int))=true:=decide_eq_true i1
   have i2':decide (k<n)=true:=decide_eq_true hkn
   by_cases hmm:m<20000
   ·rw [if_pos hmm] at hst
    have g1:decide ((m:Int)<20000)=true:=decide_eq_true (by omega)
    have g1':decide (m<20000)=true:=decide_eq_true hmm
    obtain ⟨z,hsz⟩:∃ z,s.size=z:=⟨_,rfl⟩
    rw [hsz] at hst hz
    unfold maxLen at hz
    obtain ⟨q,hq⟩:∃ q,min 20000 z=q:=⟨_,rfl⟩
    rw [hq] at hst
    have hqi:min (20000:Int) (z:Int)=(q:Int):=by omega
    have hq2:q≤20000:=by omega
    have w1:IntKind.i64.wrap ((m:Int)+5)=(m:Int)+5:=IntWalk.i64_in _ (by omega)
    have w2:IntKind.i64.wrap ((m:Int)+5+(q:Int))=(m:Int)+5+(q:Int):=IntWalk.i64_in _ (by omega)
    have HST:=Lib.hid hst
    clear hst hs HT hq
    go_wp2_with fail
    exact ⟨⟨k+1,m+5+q,by omega,by go_num,by go_num,(by first | exact trivial | rfl),by omega,HST⟩,by simp [intOf];omega⟩
   ·rw [if_neg hmm] at hst
    have g1:decide ((m:Int)<20000)=false:=decide_eq_false (by omega)
    have g1':decide (m<20000)=false:=decide_eq_false hmm
    clear hs HT
    subst hst
    go_wp2_with fail
    go_ret
    exact ⟨rfl,rfl⟩
  ·obtain rfl:k=n:=by omega
   have hj1:¬ (k:Int)<(k:Int):=by omega
   have hst:=HT.out
   rw [List.drop_of_length_le (by rw [HN.out];exact Nat.le_refl _),textsGo] at hst
   clear HT
   subst hst
   go_wp2_with fail
   go_ret
   exact ⟨rfl,rfl⟩
end

section
open Go.RowKit
def awWant:MapgP:=⟨[⟨#[97,47,42]⟩],[⟨#[114]⟩,⟨#[115]⟩],true,2⟩
def awRepos:List RepoP:=[(⟨#[114]⟩,[⟨#[117]⟩]),(⟨#[115]⟩,[])]
def awMap:MapP:=⟨awRepos,[awWant]⟩
def awRs:ByteArray:=⟨#[34,114,34,58,91,34,117,34,93,44,34,115,34,58,91,93]⟩
def awPaths:ByteArray:=⟨#[34,97,47,42,34]⟩
def awTwo:ByteArray:=⟨#[34,114,34,44,34,115,34]⟩
def awOdd:ByteArray:=⟨#[34,114,34,44,34,116,34]⟩
theorem catB (s t:ByteArray):(s++t).data.toList=s.data.toList++t.data.toList:=by
 rw [ByteArray.data_append]
 simp
theorem whole_list (a b:ByteArray):(wholeT a b).data.toList=[123,34,109,97,112,112,105,110,103,34,58,91]++a.data.toList++[93,44,34,114,101,112,111,115,105,116,111,114,105,101,115,34,58,123]++b.data.toList++[125,125]:=by
 simp only [wholeT,catB]
theorem mapping_list (a b c:ByteArray):(mappingT a b c).data.toList=[123,34,112,97,116,104,115,34,58,91]++a.data.toList++[93,44,34,114,101,112,111,115,105,116,111,114,105,101,115,34,58,91]++b.data.toList++[93,44,34,116,101,114,109,105,110,97,116,105,110,103,34,58,116,114,117,101,44,34,116,104,114,101,115,104,111,108,100,34,58]++c.data.toList++[125]:=by
 simp only [mappingT,catB]
theorem aw_read:chartT (wholeT (mappingT awPaths awTwo ⟨#[50]⟩) awRs).data.toList=.ok awMap:=by
 rw [whole_list,mapping_list]
 kernel_rfl
theorem aw_three:chartT (wholeT (mappingT awPaths awTwo ⟨#[51]⟩) awRs).data.toList=.bad 1:=by
 rw [whole_list,mapping_list]
 kernel_rfl
theorem aw_odd:chartT (wholeT (mappingT awPaths awOdd ⟨#[50]⟩) awRs).data.toList=.bad 6:=by
 rw [whole_list,mapping_list]
 kernel_rfl
theorem aw_none:chartT (wholeT ⟨#[]⟩ ⟨#[]⟩).data.toList=.bad 4:=by
 rw [whole_list]
 kernel_rfl
theorem aw_may:mayM awMap=true:=by kernel_rfl
theorem aw_yes:anyH hitB awWant.paths ⟨#[97,47,98]⟩=true:=by kernel_rfl
theorem aw_no:anyH hitB awWant.paths ⟨#[98]⟩=false:=by kernel_rfl
theorem aw_not:anyH hitB awWant.paths ⟨#[97]⟩=false:=by kernel_rfl
theorem aw_for:forV hitB ⟨#[97,47,98]⟩ awMap.maps=[awWant]:=by
 show forV hitB _ [awWant]=_
 rw [forV,if_pos aw_yes]
 rfl
theorem aw_fornot:forV hitB ⟨#[98]⟩ awMap.maps=[]:=by
 show forV hitB _ [awWant]=_
 rw [forV,if_neg (by rw [aw_no];decide)]
 rfl
end
end Go.Proofs.YtchinankclckjaaGreatDoor
