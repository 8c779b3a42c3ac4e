/-
 A map, a mapping or a row of texts that can be read as data is a plain one laid in memory.
-/
import Derived.Test.YtchinankclckjaaGreatDoorChartA
import Derived.Test.YtchinankclckjaaGreatDoorValRead
namespace Go.Proofs.YtchinankclckjaaGreatDoor
set_option maxRecDepth 100000
open Go.RowKit Go.ChangeShapes Go.WideShapes Go.Deep
section
variable {H:Type} {enc:TypeId × Value→H} {w:World} {base:Nat} {spare:Nat→Bool} {held:Bool}
theorem cap_trod {T e:TypeId} (hT:Tryz.prog.underlying T=some (.slice e)) {fuel:Nat} {c:Value} {x:DataW H × List MemPlace} (h:DataW.trod enc Tryz.prog w base spare held fuel T [c]=some x):CapOk c:=by
 rcases DataW.trod_slice hT h with ⟨hc,-⟩ | ⟨a,len,cap,elems,rest,n',hn',hc,-,-,hl,-⟩
 ·simp only [List.cons.injEq,and_true] at hc
  subst hc
  intro a n k e'
  injection e' with e1 e2 e3
  omega
 ·simp only [List.cons.injEq,and_true] at hc
  subst hc
  intro a' n k e'
  injection e' with e1 e2 e3
  omega
theorem each_trod {T e:TypeId} (hT:Tryz.prog.underlying T=some (.slice e)) {m:Nat} (hm:Tryz.prog.cellsOf e=m) (hm0:0<m) {fuel:Nat} {c:Value} {x:DataW H × List MemPlace} (h:DataW.trod enc Tryz.prog w base spare held fuel T [c]=some x) :
 ∃ (a:Option Addr) (len cap:Nat),c=.slice a len cap∧len≤cap∧len≤maxLen∧(∀ i,i<len→∃ b o,a=some ⟨b,o,none⟩∧∃ (cs:List Value) (fuel':Nat) (y:DataW H × List MemPlace),cs.length=m∧(∀ j,j<m→w.cell? ⟨b,o+i*m+j,none⟩=cs[j]?)∧DataW.trod enc Tryz.prog w base spare held fuel' e cs=some y):=by
 rcases DataW.trod_slice hT h with ⟨hc,-⟩ | ⟨a,len,cap,elems,rest,n',hn',hc,-,-,hl,hmx,hlen,hel,-,-⟩
 ·simp only [List.cons.injEq,and_true] at hc
  exact ⟨none,0,0,hc,Nat.le_refl _,Nat.zero_le _,fun i hi=>absurd hi (Nat.not_lt_zero _)⟩
 ·simp only [List.cons.injEq,and_true] at hc
  refine ⟨some a,len,cap,hc,hl,by omega,fun i hi=>?_⟩
  have h1:=hel i hi
  rw [List.getElem?_eq_getElem (by omega),hm] at h1
  obtain ⟨cs',hcs,htr⟩:=Option.bind_eq_some_iff.1 h1
  obtain ⟨-,hcl',hat⟩:=World.cells?_some hcs
  obtain ⟨b,o,spot⟩:=a
  have hspot:spot=none:=by
   have h2:=hel 0 (by omega)
   rw [List.getElem?_eq_getElem (by omega),hm] at h2
   obtain ⟨cs2,hcs2,-⟩:=Option.bind_eq_some_iff.1 h2
   obtain ⟨-,hl2,hat2⟩:=World.cells?_some hcs2
   have:=hat2 0 hm0
   rw [List.getElem?_eq_getElem (by omega)] at this
   simpa [Addr.add] using World.cell?_spot this
  subst hspot
  refine ⟨b,o,rfl,cs',n',_,hcl',fun j hj=>?_,htr⟩
  have:=hat j hj
  rw [add_none,add_none] at this
  exact this
theorem bool_trod {fuel:Nat} {c:Value} {x:DataW H × List MemPlace} (h:DataW.trod enc Tryz.prog w base spare held fuel 4 [c]=some x):∃ b,c=.bool b:=by
 obtain ⟨b,hb,-⟩:=DataW.trod_bool Tryz.underlying4 h
 simp only [List.cons.injEq,and_true] at hb
 exact ⟨b,hb⟩
theorem i64_trod {fuel:Nat} {c:Value} {x:DataW H × List MemPlace} (h:DataW.trod enc Tryz.prog w base spare held fuel 3 [c]=some x):∃ n,c=.int .i64 n∧-9223372036854775808≤n∧n≤9223372036854775807:=by
 obtain ⟨m,hm,-,wm⟩:=DataW.trod_int Tryz.underlying3 h
 simp only [List.cons.injEq,and_true] at hm
 have wm':-9223372036854775808≤m∧m≤9223372036854775807:=by simp [Lit.wf,IntKind.min,IntKind.max,IntKind.bits,IntKind.signed] at wm;omega
 exact ⟨m,hm,wm'⟩
theorem str_trod {fuel:Nat} {c:Value} {x:DataW H × List MemPlace} (h:DataW.trod enc Tryz.prog w base spare held fuel 9 [c]=some x):∃ t:ByteArray,c=.string t∧t.size≤maxLen:=by
 obtain ⟨t,ht,-,wt⟩:=DataW.trod_string Tryz.underlying9 h
 simp only [List.cons.injEq,and_true] at ht
 exact ⟨t,ht,wt⟩
theorem mapg_trod {fuel:Nat} {cs:List Value} {x:DataW H × List MemPlace} (h:DataW.trod enc Tryz.prog w base spare held fuel 55 cs=some x):∃ X:MapgP,∃ u1 u2,cs=[u1,u2,.bool X.term,.int .i64 X.thr]∧StrsAt w u1 X.paths∧StrsAt w u2 X.repos∧CapOk u1∧CapOk u2∧-9223372036854775808≤X.thr∧X.thr≤9223372036854775807:=by
 obtain ⟨xs,n,hn,hx,hcl,hxl,hf⟩:=DataW.trod_struct Tryz.underlying55 h
 have hC:Tryz.prog.cellsOf 55=4:=by kernel_rfl
 rw [hC] at hcl
 match cs,hcl with
 | [c0,c1,c2,c3],_ =>
   have at_:∀ (i:Nat) (hi:i<4),∃ y,xs[i]?=some y:=fun i hi=>⟨_,List.getElem?_eq_getElem (by rw [hxl];exact hi)⟩
   obtain ⟨y0,e0⟩:=at_ 0 (by omega)
   obtain ⟨y1,e1⟩:=at_ 1 (by omega)
   obtain ⟨y2,e2⟩:=at_ 2 (by omega)
   obtain ⟨y3,e3⟩:=at_ 3 (by omega)
   have f0:DataW.trod enc Tryz.prog w base spare held n 26 (([c0,c1,c2,c3].drop 0).take (Tryz.prog.cellsOf 26))=some y0:=(hf 0 _ rfl).trans e0
   have f1:DataW.trod enc Tryz.prog w base spare held n 26 (([c0,c1,c2,c3].drop 1).take (Tryz.prog.cellsOf 26))=some y1:=(hf 1 _ rfl).trans e1
   have f2:DataW.trod enc Tryz.prog w base spare held n 4 (([c0,c1,c2,c3].drop 2).take (Tryz.prog.cellsOf 4))=some y2:=(hf 2 _ rfl).trans e2
   have f3:DataW.trod enc Tryz.prog w base spare held n 3 (([c0,c1,c2,c3].drop 3).take (Tryz.prog.cellsOf 3))=some y3:=(hf 3 _ rfl).trans e3
   have k0:Tryz.prog.cellsOf 26=1:=by kernel_rfl
   have k2:Tryz.prog.cellsOf 4=1:=by kernel_rfl
   have k3:Tryz.prog.cellsOf 3=1:=by kernel_rfl
   simp only [k0,k2,k3,List.drop_zero,List.drop_succ_cons,List.take_succ_cons,List.take_zero] at f0 f1 f2 f3
   obtain ⟨l0,s0⟩:=strsAt_trod f0
   obtain ⟨l1,s1⟩:=strsAt_trod f1
   obtain ⟨b,rfl⟩:=bool_trod f2
   obtain ⟨m,rfl,m0,m1⟩:=i64_trod f3
   exact ⟨⟨l0,l1,b,m⟩,c0,c1,rfl,s0,s1,cap_trod Tryz.underlying26 f0,cap_trod Tryz.underlying26 f1,m0,m1⟩
theorem repo_trod {fuel:Nat} {cs:List Value} {x:DataW H × List MemPlace} (h:DataW.trod enc Tryz.prog w base spare held fuel 48 cs=some x):∃ X:RepoP,∃ u,cs=[.string X.1,u]∧X.1.size≤maxLen∧StrsAt w u X.2:=by
 obtain ⟨xs,n,hn,hx,hcl,hxl,hf⟩:=DataW.trod_struct Tryz.underlying48 h
 have hC:Tryz.prog.cellsOf 48=2:=by kernel_rfl
 rw [hC] at hcl
 match cs,hcl with
 | [c0,c1],_ =>
   have at_:∀ (i:Nat) (hi:i<2),∃ y,xs[i]?=some y:=fun i hi=>⟨_,List.getElem?_eq_getElem (by rw [hxl];exact hi)⟩
   obtain ⟨y0,e0⟩:=at_ 0 (by omega)
   obtain ⟨y1,e1⟩:=at_ 1 (by omega)
   have f0:DataW.trod enc Tryz.prog w base spare held n 9 (([c0,c1].drop 0).take (Tryz.prog.cellsOf 9))=some y0:=(hf 0 _ rfl).trans e0
   have f1:DataW.trod enc Tryz.prog w base spare held n 26 (([c0,c1].drop 1).take (Tryz.prog.cellsOf 26))=some y1:=(hf 1 _ rfl).trans e1
   have k0:Tryz.prog.cellsOf 9=1:=by kernel_rfl
   have k1:Tryz.prog.cellsOf 26=1:=by kernel_rfl
   simp only [k0,k1,List.drop_zero,List.drop_succ_cons,List.take_succ_cons,List.take_zero] at f0 f1
   obtain ⟨t,rfl,ht⟩:=str_trod f0
   obtain ⟨l1,s1⟩:=strsAt_trod f1
   exact ⟨⟨t,l1⟩,c1,rfl,ht,s1⟩
theorem ofFn_get {α:Type} {len:Nat} {f:Nat→α} {i:Nat} {x:α} (h:((List.range len).map f)[i]?=some x):i<len∧x=f i:=by
 obtain ⟨hi,hv⟩:=List.getElem?_eq_some_iff.1 h
 have hi:i<len:=by simpa using hi
 rw [List.getElem?_map,List.getElem?_range hi] at h
 simp only [Option.map_some,Option.some.injEq] at h
 exact ⟨hi,h.symm⟩
theorem repos_trod {fuel:Nat} {c:Value} {x:DataW H × List MemPlace} (h:DataW.trod enc Tryz.prog w base spare held fuel 22 [c]=some x):∃ l,ReposAt w c l:=by
 obtain ⟨a,len,cap,rfl,-,hmx,hel⟩:=each_trod Tryz.underlying22 (show Tryz.prog.cellsOf 48=2 by kernel_rfl) (by decide) h
 unfold maxLen at hmx
 have each:∀ i,i<len→∃ X:RepoP,∃ b o u,a=some ⟨b,o,none⟩∧w.cell? ⟨b,o+i*2,none⟩=some (.string X.1)∧w.cell? ⟨b,o+i*2+1,none⟩=some u∧X.1.size≤maxLen∧StrsAt w u X.2:=by
  intro i hi
  obtain ⟨b,o,ha,cs,fuel',y,hl,hc,ht⟩:=hel i hi
  obtain ⟨X,u,rfl,h1,h2⟩:=repo_trod ht
  exact ⟨X,b,o,u,ha,hc 0 (by decide),hc 1 (by decide),h1,h2⟩
 let pick:Nat→RepoP:=fun i=>if hi:i<len then Classical.choose (each i hi) else (⟨#[]⟩,[])
 refine ⟨(List.range len).map pick,by simp;omega,a,cap,by simp,fun i x hx=>?_⟩
 obtain ⟨hi,rfl⟩:=ofFn_get hx
 have:=Classical.choose_spec (each i hi)
 rwa [show pick i=Classical.choose (each i hi) from dif_pos hi]
theorem maps_trod {fuel:Nat} {c:Value} {x:DataW H × List MemPlace} (h:DataW.trod enc Tryz.prog w base spare held fuel 23 [c]=some x):∃ l,MapsAt w c l:=by
 have hcap:=cap_trod Tryz.underlying23 h
 obtain ⟨a,len,cap,rfl,-,hmx,hel⟩:=each_trod Tryz.underlying23 (show Tryz.prog.cellsOf 55=4 by kernel_rfl) (by decide) h
 unfold maxLen at hmx
 have each:∀ i,i<len→∃ X:MapgP,∃ b o u1 u2,a=some ⟨b,o,none⟩∧w.cell? ⟨b,o+i*4,none⟩=some u1∧w.cell? ⟨b,o+i*4+1,none⟩=some u2∧w.cell? ⟨b,o+i*4+2,none⟩=some (.bool X.term)∧w.cell? ⟨b,o+i*4+3,none⟩=some (.int .i64 X.thr)∧StrsAt w u1 X.paths∧StrsAt w u2 X.repos∧CapOk u2∧-9223372036854775808≤X.thr∧X.thr≤9223372036854775807:=by
  intro i hi
  obtain ⟨b,o,ha,cs,fuel',y,hl,hc,ht⟩:=hel i hi
  obtain ⟨X,u1,u2,rfl,h1,h2,-,h4,h5,h6⟩:=mapg_trod ht
  exact ⟨X,b,o,u1,u2,ha,hc 0 (by decide),hc 1 (by decide),hc 2 (by decide),hc 3 (by decide),h1,h2,h4,h5,h6⟩
 let pick:Nat→MapgP:=fun i=>if hi:i<len then Classical.choose (each i hi) else ⟨[],[],false,0⟩
 refine ⟨(List.range len).map pick,by simp;omega,hcap,a,cap,by simp,fun i x hx=>?_⟩
 obtain ⟨hi,rfl⟩:=ofFn_get hx
 have:=Classical.choose_spec (each i hi)
 rwa [show pick i=Classical.choose (each i hi) from dif_pos hi]
theorem map_trod {fuel:Nat} {cs:List Value} {x:DataW H × List MemPlace} (h:DataW.trod enc Tryz.prog w base spare held fuel 25 cs=some x):∃ M,MapAt w (.agg cs.toArray) M:=by
 obtain ⟨xs,n,hn,hx,hcl,hxl,hf⟩:=DataW.trod_struct Tryz.underlying25 h
 have hC:Tryz.prog.cellsOf 25=2:=by kernel_rfl
 rw [hC] at hcl
 match cs,hcl with
 | [c0,c1],_ =>
   have at_:∀ (i:Nat) (hi:i<2),∃ y,xs[i]?=some y:=fun i hi=>⟨_,List.getElem?_eq_getElem (by rw [hxl];exact hi)⟩
   obtain ⟨y0,e0⟩:=at_ 0 (by omega)
   obtain ⟨y1,e1⟩:=at_ 1 (by omega)
   have f0:DataW.trod enc Tryz.prog w base spare held n 22 (([c0,c1].drop 0).take (Tryz.prog.cellsOf 22))=some y0:=(hf 0 _ rfl).trans e0
   have f1:DataW.trod enc Tryz.prog w base spare held n 23 (([c0,c1].drop 1).take (Tryz.prog.cellsOf 23))=some y1:=(hf 1 _ rfl).trans e1
   have k0:Tryz.prog.cellsOf 22=1:=by kernel_rfl
   have k1:Tryz.prog.cellsOf 23=1:=by kernel_rfl
   simp only [k0,k1,List.drop_zero,List.drop_succ_cons,List.take_succ_cons,List.take_zero] at f0 f1
   obtain ⟨l0,s0⟩:=repos_trod f0
   obtain ⟨l1,s1⟩:=maps_trod f1
   exact ⟨⟨l0,l1⟩,c0,c1,rfl,s0,s1⟩
theorem mapAt_arg {r:Reach} {b0:Nat} {v:Value} {d:DataW H} {p:List MemPlace} (hv:Value.okWide Tryz.prog w r b0 25 v) (h:DataW.Trod enc Tryz.prog w base spare held 25 v d p):∃ M,MapAt w v M:=by
 obtain ⟨cs,rfl,-⟩:=okWide_struct Tryz.underlying25 hv
 obtain ⟨fuel,hf⟩:=h
 obtain ⟨V,hV⟩:=map_trod hf
 exact ⟨V,by simpa [Value.cells] using hV⟩
end
end Go.Proofs.YtchinankclckjaaGreatDoor
