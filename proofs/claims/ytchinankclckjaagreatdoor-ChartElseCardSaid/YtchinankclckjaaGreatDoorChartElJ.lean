/-
  pick.Of of a value in whatever memory: a picker of a value of which members may be nothing.
  What is told within the statement of ChartElse that puts the members and one besides together.
  What the second half of ChartElse's walk stands on: weights, a mapping's cells in a map's object, a mapping's four members, and three of them.
-/
import Derived.Test.YtchinankclckjaaGreatDoorChartEl
import Derived.Test.YtchinankclckjaaGreatDoorChartI
import Derived.Test.YtchinankclckjaaGreatDoorChartSay
namespace Go.Proofs.YtchinankclckjaaGreatDoor
section
open Go.RowKit
theorem LiveN.keep {w w':World} (hb:Below w.heap.size w w'):∀ (N:Nat) (v:Value) (items:List JV),ItemsAt w v items→LiveN w N v items→LiveN w' N v items
 | 0,_,_,_,_=>trivial
 | N+1,v,items,hI,hL=>fun b o n c e j x hx=>by
   obtain ⟨h1,h2⟩:=hL b o n c e j x hx
   obtain ⟨a,cap,e',-,hpart⟩:=hI.parts
   rw [e] at e'
   simp only [Value.slice.injEq] at e'
   obtain ⟨rfl,-,rfl⟩:=e'
   obtain ⟨b2,o2,vn,wi,eb,d0,-,-,-,d4,-,-,-,-,-,-,his⟩:=hpart j x hx
   simp only [Option.some.injEq,Addr.mk.injEq,and_true] at eb
   obtain ⟨rfl,rfl⟩:=eb
   refine ⟨?_,fun xi hxi=>?_⟩
   ·unfold World.frozen? at h1 ⊢
    rw [show w'.heap[b]?=w.heap[b]? from hb.block b (cell_lt d0)]
    exact h1
   ·have d4':=cell_keep hb d4
    rw [d4'] at hxi
    cases hxi
    exact LiveN.keep hb N _ _ his (h2 _ d4)
theorem Live.keep {w w':World} {v:Value} {items:List JV} (hI:ItemsAt w v items) (h:Live w v items) (hb:Below w.heap.size w w'):Live w' v items:=fun N=>LiveN.keep hb N v items hI (h N)
end

section
open Go.RowKit
theorem vc_inj {a b:VC} (h:a.val=b.val):a=b:=by
 cases a;cases b
 simp only [VC.val,Value.agg.injEq,Array.mk.injEq,List.cons.injEq,Value.int.injEq,Value.string.injEq,Value.slice.injEq,true_and,and_true] at h
 obtain ⟨rfl,rfl,rfl,⟨rfl,rfl,rfl⟩,rfl,rfl,rfl⟩:=h
 rfl
def WideV (M:MapP) (s:ByteArray) (X:JV) (O:JV):Prop:=∃ (c1 c2 c3:VC) (ys:List XM) (us:List JV),ys.Perm [⟨tMapping,c1,listJ (M.maps.map mapgJ)⟩,⟨tRepos,c2,reposJ M.repos⟩,⟨s,c3,X⟩]∧OutE CutE ys us∧O=.mk 5 0 ⟨#[]⟩ (ys.map XM.name) us
def elI (w1:World) (M:MapP) (s:ByteArray) (yv:Value) (x:VC) (X:JV) (dn:Nat→Bool) (vs:Nat→Value) (w:World):Prop :=
 Below w1.heap.size w1 w ∧
 (dn 0=true→vs 0=yv) ∧
 (dn 1=true→dn 6=false→∃ (p q:VC) (g c:Nat),vs 1=.slice (some ⟨g,0,none⟩) 2 c∧w.ownsRow w1.heap.size 41 6 (.slice (some ⟨g,0,none⟩) 2 c) 2 (xmCells [⟨tMapping,p,listJ (M.maps.map mapgJ)⟩,⟨tRepos,q,reposJ M.repos⟩])∧ValAt (pureW w1) (listJ (M.maps.map mapgJ)) p.val∧ValAt (pureW w1) (reposJ M.repos) q.val) ∧
 (dn 2=true→vs 2=.string s) ∧
 (dn 3=true→vs 3=.agg #[.int .u8 x.k,.int .i64 x.n,.string x.t,.slice x.a x.l x.c,.slice x.b x.m x.e]) ∧
 (dn 4=true→vs 4=.agg #[.string s,.int .u8 x.k,.int .i64 x.n,.string x.t,.slice x.a x.l x.c,.slice x.b x.m x.e]) ∧
 (dn 5=true→dn 6=false→∃ g,vs 5=.slice (some ⟨g,0,none⟩) 1 1∧BlkAt w g 41 #[.string s,.int .u8 x.k,.int .i64 x.n,.string x.t,.slice x.a x.l x.c,.slice x.b x.m x.e]) ∧
 (dn 6=true→dn 12=false→∃ (p q:VC) (g c:Nat),vs 6=.slice (some ⟨g,0,none⟩) 3 c∧w.ownsRow w1.heap.size 41 6 (.slice (some ⟨g,0,none⟩) 3 c) 3 (xmCells [⟨tMapping,p,listJ (M.maps.map mapgJ)⟩,⟨tRepos,q,reposJ M.repos⟩,⟨s,x,X⟩])∧ValAt (pureW w1) (listJ (M.maps.map mapgJ)) p.val∧ValAt (pureW w1) (reposJ M.repos) q.val) ∧
 (dn 7=true→∃ (z:VC) (er:Int),vs 7=.tuple #[z.val,.int .i64 er]∧(er≠0∨(er=0∧∃ O,WideV M s X O∧(dn 12=false→NewV w1.heap.size w O z.val)∧∀ g,dn 11=true→vs 11=.pointer (some ⟨g,0,none⟩)→ValAt (hidden (offB w1.heap.size (some g)) w) O z.val))) ∧
 (dn 8=true→vs 8=vs 7) ∧
 (dn 9=true→∀ a b,vs 8=.tuple #[a,b]→vs 9=a) ∧
 (dn 10=true→∀ a b,vs 8=.tuple #[a,b]→vs 10=b) ∧
 (dn 11=true→∃ g,vs 11=.pointer (some ⟨g,0,none⟩)∧w1.heap.size≤g∧(dn 12=false→BlkAt w g 29 #[.int .u8 0,.int .i64 0,.string ⟨#[]⟩,.slice none 0 0,.slice none 0 0])) ∧
 (dn 12=true→∃ (z:VC) (g:Nat),vs 9=z.val∧vs 11=.pointer (some ⟨g,0,none⟩)∧w1.heap.size≤g∧BlkAt w g 29 #[.int .u8 z.k,.int .i64 z.n,.string z.t,.slice z.a z.l z.c,.slice z.b z.m z.e])
theorem elI_keep {w1:World} {M:MapP} {s:ByteArray} {yv:Value} {x:VC} {X:JV} {dn:Nat→Bool} {vs:Nat→Value} {w w':World} (h:elI w1 M s yv x X dn vs w) (hb:Below w.heap.size w w'):elI w1 M s yv x X dn vs w':=by
 obtain ⟨i0,k0,k1,k2,k3,k4,k5,k6,k7,k8,k9,k10,k11,k12⟩:=h
 refine ⟨below_more i0 hb,k0,fun a b=>?_,k2,k3,k4,fun a b=>?_,fun a b=>?_,fun a=>?_,k8,k9,k10,fun a=>?_,fun a=>?_⟩
 ·obtain ⟨p,q,g,c,e,h1,h2,h3⟩:=k1 a b
  exact ⟨p,q,g,c,e,ownsRow_keep h1 hb,h2,h3⟩
 ·obtain ⟨g,e,h1⟩:=k5 a b
  exact ⟨g,e,BlkAt.keep h1 hb⟩
 ·obtain ⟨p,q,g,c,e,h1,h2,h3⟩:=k6 a b
  exact ⟨p,q,g,c,e,ownsRow_keep h1 hb,h2,h3⟩
 ·obtain ⟨z,er,e,h1⟩:=k7 a
  refine ⟨z,er,e,?_⟩
  rcases h1 with h1 | ⟨h1,O,h2,h3,h4⟩
  ·exact Or.inl h1
  ·exact Or.inr ⟨h1,O,h2,fun h=>(h3 h).keepB hb,fun g c d=>(h4 g c d).imp (hid_imp fun k hk hP=>⟨hP,hb.block k hk⟩)⟩
 ·obtain ⟨g,e,h1,h2⟩:=k11 a
  exact ⟨g,e,h1,fun h=>BlkAt.keep (h2 h) hb⟩
 ·obtain ⟨z,g,e,e2,h1,h2⟩:=k12 a
  exact ⟨z,g,e,e2,h1,BlkAt.keep h2 hb⟩
theorem row_apart {w:World} {B g m n c:Nat} {T T':TypeId} {xs:List Value} {cs:Array Value} (h:w.ownsRow B T m (.slice (some ⟨g,0,none⟩) n c) n xs) (_hn:n≠0) (h':BlkAt w g T' cs) (hT:T≠T'):False:=by
 rcases h.2 with ⟨e,-⟩ | ⟨g',cap,cur,e,-,hg,-⟩
 ·cases e
 ·simp only [Value.slice.injEq,Option.some.injEq,Addr.mk.injEq] at e
  obtain ⟨⟨rfl,-⟩,-⟩:=e
  have h2:w.heap[g]?=some (.cells cs T' (0,0)):=h'
  rw [hg] at h2
  simp only [Option.some.injEq,Obj.cells.injEq] at h2
  exact hT h2.2.1
theorem wt_long {V:JV} (h:True→wtL [V]<20000):wt V≤1000000000:=by
 have h1:=h trivial
 rw [wtL,wtL] at h1
 omega
theorem cutL_refl (l:List JV):CutL l l:=⟨rfl,fun _ _ h=>Or.inl h⟩
theorem objectOf_wide {M:MapP} {s:ByteArray} {X:JV} (p q x:VC) (g c B:Nat) (w0 w:World) (hb:Below w0.heap.size w0 w) (ho:w.ownsRow B 41 6 (.slice (some ⟨g,0,none⟩) 3 c) 3 (xmCells [⟨tMapping,p,listJ (M.maps.map mapgJ)⟩,⟨tRepos,q,reposJ M.repos⟩,⟨s,x,X⟩]))
 (hp:ValAt (pureW w0) (listJ (M.maps.map mapgJ)) p.val) (hq:ValAt (pureW w0) (reposJ M.repos) q.val) (hx:ValAt w0 X x.val) (hI:ItemsAt w0 (.slice x.b x.m x.e) X.items) (hl:Live w0 (.slice x.b x.m x.e) X.items) (hs:s.size≤maxLen) (w1:wt (listJ (M.maps.map mapgJ))≤1000000000) (w2:wt (reposJ M.repos)≤1000000000) (w3:wt X≤1000000000) :
 Calls Tryz.prog 10 #[.slice (some ⟨g,0,none⟩) 3 c] w fun e w'=>∃ (z:VC) (er:Int),e=.returned (.tuple #[z.val,.int .i64 er])∧Below w.heap.size w w'∧(er≠0∨(er=0∧∃ O,WideV M s X O∧NewV w.heap.size w' O z.val)):=by
 have hcc:=World.ownsRow.cells ho (g:=g) rfl
 refine (objectOf_gen CutE [⟨tMapping,p,listJ (M.maps.map mapgJ)⟩,⟨tRepos,q,reposJ M.repos⟩,⟨s,x,X⟩] _ w ⟨g,0,c,rfl,fun i y hy j u hu=>?_,fun y hy=>?_⟩ (fun y hy=>?_) (by simp) (by simp)).mono fun e w' h=>?_
 ·have hj6:j<6:=by have:=(List.getElem?_eq_some_iff.1 hu).1;rwa [XM.cells_len] at this
  have:=hcc (i*6+j) u ((xmCells_get _ i y hy j hj6).trans hu)
  rw [add_none,Nat.zero_add] at this
  rwa [Nat.zero_add]
 ·simp only [List.mem_cons,List.not_mem_nil,or_false] at hy
  rcases hy with rfl | rfl | rfl
  ·show tMapping.size≤maxLen;decide
  ·show tRepos.size≤maxLen;decide
  ·exact hs
 ·simp only [List.mem_cons,List.not_mem_nil,or_false] at hy
  rcases hy with rfl | rfl | rfl
  ·intro W hW
   refine (Copy_any (listJ (M.maps.map mapgJ)) p.val W (hp.imp (pure_keep (below_more hb hW))) w1).mono fun e w' h=>?_
   obtain ⟨z,h1,h2,h3⟩:=h
   exact ⟨z,_,h1,⟨_,cutL_refl _,rfl⟩,h2,h3⟩
  ·intro W hW
   refine (Copy_any (reposJ M.repos) q.val W (hq.imp (pure_keep (below_more hb hW))) w2).mono fun e w' h=>?_
   obtain ⟨z,h1,h2,h3⟩:=h
   exact ⟨z,_,h1,⟨_,cutL_refl _,rfl⟩,h2,h3⟩
  ·intro W hW
   have hk:=below_more hb hW
   refine (Copy_some X x.val W (hx.keep hk) (fun c0 c1 c2 c3 vi e=>by
    simp only [VC.val,Value.agg.injEq,Array.mk.injEq,List.cons.injEq,and_true] at e
    obtain ⟨-,-,-,-,rfl⟩:=e
    exact Live.keep hI hl hk) w3).mono fun e w' h=>?_
   obtain ⟨z,l,h1,h2,h3,h4⟩:=h
   exact ⟨z,_,h1,⟨l,h2,rfl⟩,h3,h4⟩
 ·obtain ⟨ys,hperm,-,hbel,hc⟩:=h
  rcases hc with ⟨i,y,z,-,-,-,rfl⟩ | ⟨z,us,hout,rfl,hnew⟩
  ·exact ⟨⟨0,0,⟨#[]⟩,none,0,0,none,0,0⟩,7,rfl,hbel,Or.inl (by decide)⟩
  ·exact ⟨z,0,rfl,hbel,Or.inr ⟨rfl,_,⟨p,q,x,ys,us,hperm,hout,rfl⟩,hnew⟩⟩
end

section
open Go.RowKit
theorem wt_ofGood {d c:Nat} {x:JV} (h:Good d c x):wt x≤8200*c:=by
 have h1:=wt_good x h.1
 have h2:=h.2.2
 have h3:8200*countV x≤8200*c:=Nat.mul_le_mul_left _ h2
 omega
theorem wtL_perm {l l':List JV} (h:l.Perm l'):wtL l=wtL l':=by
 induction h with
 | nil=>rfl
 | cons x _ ih=>rw [wtL,wtL,ih]
 | swap x y l=>rw [wtL,wtL,wtL,wtL];omega
 | trans _ _ h1 h2=>rw [h1,h2]
theorem wtL_mono:∀ {l l':List JV},l'.length=l.length→(∀ (i:Nat) (x y:JV),l'[i]?=some x→l[i]?=some y→wt x≤wt y)→wtL l'≤wtL l
 | [],[],_,_=>Nat.le_refl _
 | [],_ :: _,h,_=>by simp at h
 | _ :: _,[],h,_=>by simp at h
 | y :: l,x :: l',h,hw=>by
   have h1:=hw 0 x y rfl rfl
   have h2:=wtL_mono (l:=l) (l':=l') (by simpa using h) fun i a b ha hb=>hw (i+1) a b (by simpa using ha) (by simpa using hb)
   rw [wtL,wtL]
   omega
theorem wt_cut {V:JV} {l:List JV} (h:CutL l V.items):wt (.mk V.k V.n V.t V.names l)≤wt V:=by
 have h1:=wtL_mono h.1 fun i x y hx hy=>by
  rcases h.2 i x hx with e | rfl
  ·rw [hy] at e
   rw [Option.some.inj e]
   exact Nat.le_refl _
  ·have:=wt_eq y
   show wt zJV≤_
   have h4:wt zJV=4:=rfl
   omega
 rw [wt_eq,wt_eq V]
 show 4+V.t.size+wtN V.names+wtL l≤_
 omega
theorem wide_wt {M:MapP} {s:ByteArray} {X O:JV} (hM:mayM M=true) (h:WideV M s X O) (hs:s.size≤1000) (hX:wt X≤20000):wt O≤1000000000:=by
 obtain ⟨c1,c2,c3,ys,us,hp,ho,rfl⟩:=h
 have h1:wtL us≤wtL (ys.map XM.V):=wtL_mono (by rw [List.length_map];exact ho.1) fun i u v hu hv=>by
  rw [List.getElem?_map] at hv
  cases hy:ys[i]? with
  | none=>rw [hy] at hv;cases hv
  | some y =>
    rw [hy] at hv
    obtain rfl:=Option.some.inj hv
    obtain ⟨u',hu',l,hc,he⟩:=ho.2 i y hy
    rw [hu] at hu'
    obtain rfl:=Option.some.inj hu'
    rw [he]
    exact wt_cut hc
 rw [wtL_perm (hp.map XM.V)] at h1
 have h2:wtL ([⟨tMapping,c1,listJ (M.maps.map mapgJ)⟩,⟨tRepos,c2,reposJ M.repos⟩,⟨s,c3,X⟩].map XM.V)=wt (listJ (M.maps.map mapgJ))+(wt (reposJ M.repos)+(wt X+0)):=rfl
 have h3:=wt_ofGood (list_good16 (maps_good hM) (by rw [List.length_map];exact (mayM_parts hM).2.2.1))
 have h4:=wt_ofGood (repos_good hM)
 have h5:wtN (ys.map XM.name)=wtN [tMapping,tRepos,s]:=((hp.map XM.name).map (fun s:ByteArray=>2+s.size)).sum_nat
 have h6:wtN [tMapping,tRepos,s]=2+tMapping.size+(2+tRepos.size+(2+s.size+0)):=rfl
 have h7:tMapping.size≤100:=by decide
 have h8:tRepos.size≤100:=by decide
 rw [wt_eq]
 show 4+0+wtN (ys.map XM.name)+wtL us≤_
 omega
theorem wt_long2 {V:JV} (h:True→wtL [V]<20000):wt V≤20000:=by
 have h1:=h trivial
 rw [wtL,wtL] at h1
 omega
theorem rowAt_take {w:World} {b:Nat}:∀ (l:List JV) (o q:Nat),RowAt w b o l→RowAt w b o (l.take q)
 | [],o,q,_=>by rw [List.take_nil,RowAt];trivial
 | x :: r,o,0,_=>by rw [List.take_zero,RowAt];trivial
 | x :: r,o,q+1,h=>by
   rw [RowAt] at h
   rw [List.take_succ_cons,RowAt]
   exact ⟨h.1,rowAt_take r (o+5) q h.2⟩
theorem maps_at {Q:World} {L:List MapgP} {pk pn:Int} {pt:ByteArray} {pa:Option Addr} {pl pc:Nat} {pb:Option Addr} {pm pe q:Nat} (h:ValAt Q (listJ (L.map mapgJ)) (VC.val ⟨pk,pn,pt,pa,pl,pc,pb,pm,pe⟩)) (hn:L.length=q+1) :
 pm=q+1∧q≤pe∧∃ (X:MapgP) (ib io:Nat) (xa:Option Addr) (xc:Nat) (xb:Option Addr) (xe:Nat),L[q]?=some X∧pb=some ⟨ib,io,none⟩∧Q.cell? ⟨ib,io+q*5,none⟩=some (.int .u8 5)∧Q.cell? ⟨ib,io+q*5+1,none⟩=some (.int .i64 0)∧Q.cell? ⟨ib,io+q*5+2,none⟩=some (.string ⟨#[]⟩)∧Q.cell? ⟨ib,io+q*5+3,none⟩=some (.slice xa 4 xc)∧Q.cell? ⟨ib,io+q*5+4,none⟩=some (.slice xb 4 xe) ∧
  ValAt Q (mapgJ X) (VC.val ⟨5,0,⟨#[]⟩,xa,4,xc,xb,4,xe⟩)∧∀ c,q≤c→ItemsAt Q (.slice (some ⟨ib,io,none⟩) ((L.take q).map mapgJ).length c) ((L.take q).map mapgJ):=by
 obtain ⟨vn,vi,e,-,-,-,-,-,-,his⟩:=valAt_iff.1 h
 simp only [VC.val,Value.agg.injEq,Array.mk.injEq,List.cons.injEq,and_true] at e
 obtain ⟨-,-,-,-,rfl⟩:=e
 have hlen:(L.map mapgJ).length=q+1:=by rw [List.length_map];exact hn
 obtain ⟨hl,hc⟩:=his
 rcases hc with ⟨h0,-⟩ | ⟨b,o,c,e,hr,hz⟩
 ·have h1:(L.map mapgJ).length=0:=by rw [show L.map mapgJ=[] from h0];rfl
  omega
 ·simp only [Value.slice.injEq] at e
  obtain ⟨rfl,e2,rfl⟩:=e
  refine ⟨e2.trans hlen,by have h1:(L.map mapgJ).length≤_:=hz;rw [hlen] at h1;omega,?_⟩
  obtain ⟨X,hX⟩:∃ X,L[q]?=some X:=⟨_,List.getElem?_eq_getElem (by omega)⟩
  have hx:(L.map mapgJ)[q]?=some (mapgJ X):=by rw [List.getElem?_map,hX];rfl
  obtain ⟨c0,c1,c2,c3,c4,h0,h1,h2,h3,h4,hv⟩:=hr.item hx
  obtain ⟨an,nc,ai,ic,e⟩:=valAt_agg hv
  simp only [Value.agg.injEq,Array.mk.injEq,List.cons.injEq,and_true] at e
  obtain ⟨rfl,rfl,rfl,rfl,rfl⟩:=e
  refine ⟨X,b,o,an,nc,ai,ic,hX,rfl,h0,h1,h2,h3,h4,hv,fun c hqc=>⟨?_,Or.inr ⟨b,o,c,rfl,?_,?_⟩⟩⟩
  ·rw [List.length_map,List.length_take]
   have h1:(L.map mapgJ).length≤9223372036854775807:=hl
   rw [List.length_map] at h1
   exact Nat.le_trans (Nat.min_le_right _ _) h1
  ·rw [List.map_take]
   exact rowAt_take _ _ _ hr
  ·rw [List.length_map,List.length_take]
   exact Nat.le_trans (Nat.min_le_left _ _) hqc
def xs4 (x:MapgP) (p1 p2 p3 p4:VC):List XM:=[⟨tPaths,p1,textsJ x.paths⟩,⟨tRepos,p2,textsJ x.repos⟩,⟨tTerm,p3,boolJ x.term⟩,⟨tThr,p4,numJ x.thr⟩]
theorem xs4_asc (x:MapgP) (p1 p2 p3 p4:VC):(xs4 x p1 p2 p3 p4).Pairwise XLt:=by
 unfold xs4 XLt
 simp only [List.pairwise_cons,List.mem_cons,List.not_mem_nil,or_false,forall_eq_or_imp,forall_eq,List.Pairwise.nil,and_true]
 refine ⟨⟨?_,?_,?_⟩,⟨?_,?_⟩,?_,?_⟩ <;> first | kernel_rfl | simp
theorem memRow_mapg {Q w:World} {B:Nat} {x:MapgP} {v:Value} (h:MemRow Q w B (mapgJ x) v):∃ (p1 p2 p3 p4:VC) (g c:Nat),v=.slice (some ⟨g,0,none⟩) 4 c∧B≤g∧g<w.heap.size∧w.ownsRow B 41 6 (.slice (some ⟨g,0,none⟩) 4 c) 4 (xmCells (xs4 x p1 p2 p3 p4))∧∀ y ∈ xs4 x p1 p2 p3 p4,ValAt Q y.V y.c.val∧y.name.size≤maxLen:=by
 obtain ⟨xs,a,c,rfl,hl,hm,ho,hv⟩:=h
 have hl4:xs.length=4:=hl
 match xs,hl4 with
 | [⟨s1,p1,V1⟩,⟨s2,p2,V2⟩,⟨s3,p3,V3⟩,⟨s4,p4,V4⟩],_ =>
   have hm':[(s1,V1),(s2,V2),(s3,V3),(s4,V4)]=[(tPaths,textsJ x.paths),(tRepos,textsJ x.repos),(tTerm,boolJ x.term),(tThr,numJ x.thr)]:=hm
   simp only [List.cons.injEq,Prod.mk.injEq,and_true] at hm'
   obtain ⟨⟨rfl,rfl⟩,⟨rfl,rfl⟩,⟨rfl,rfl⟩,rfl,rfl⟩:=hm'
   have ho':w.ownsRow B 41 6 (.slice a 4 c) 4 (xmCells (xs4 x p1 p2 p3 p4)):=ho
   obtain ⟨g,c',e,-,-⟩:=World.ownsRow.form ho' (by decide)
   simp only [Value.slice.injEq,true_and] at e
   obtain ⟨rfl,rfl⟩:=e
   exact ⟨p1,p2,p3,p4,g,c,rfl,(World.ownsRow.lt ho' g rfl).1,(World.ownsRow.lt ho' g rfl).2,ho',hv⟩
theorem own_cells {w:World} {B g n c m:Nat} {T:TypeId} {xs:List Value} (h:w.ownsRow B T m (.slice (some ⟨g,0,none⟩) n c) n xs):∀ (j:Nat) (u:Value),xs[j]?=some u→w.cell? ⟨g,j,none⟩=some u:=fun j u hu=>by
 have:=World.ownsRow.cells h (g:=g) rfl j u hu
 rwa [add_none,Nat.zero_add] at this
theorem xs4_wt {x:MapgP} {p1 p2 p3 p4:VC} (hm:mayB (mapgJ x)=true):∀ y ∈ xs4 x p1 p2 p3 p4,wt y.V≤1000000000:=fun y hy=>by
 have h1:y.V ∈ [textsJ x.paths,textsJ x.repos,boolJ x.term,numJ x.thr]:=List.mem_map.2 ⟨y,hy,rfl⟩
 exact wt_may (may_item hm (Or.inr rfl) h1)
theorem objectOf_xs (xs:List XM) (n g c:Nat) (w:World) (hn:xs.length=n) (h0:0<n) (h4:n≤4) (hs:xs.Pairwise XLt) (hv:∀ y ∈ xs,ValAt (pureW w) y.V y.c.val∧y.name.size≤maxLen) (hw:∀ y ∈ xs,wt y.V≤1000000000) (hc:∀ j u,(xmCells xs)[j]?=some u→w.cell? ⟨g,j,none⟩=some u) :
 Calls Tryz.prog 10 #[.slice (some ⟨g,0,none⟩) n c] w fun e w'=>∃ y:VC,e=.returned (.tuple #[y.val,.int .i64 0])∧Below w.heap.size w w'∧NewV w.heap.size w' (objJ xs) y.val:=by
 subst hn
 refine objectOf_any xs _ w ⟨g,0,c,rfl,fun i y hy j u hu=>?_,hv⟩ (fun e=>by rw [e] at h0;exact absurd h0 (by decide)) (by omega) hs hw
 have hj6:j<6:=by have:=(List.getElem?_eq_some_iff.1 hu).1;rwa [XM.cells_len] at this
 rw [Nat.zero_add]
 exact hc _ _ ((xmCells_get _ i y hy j hj6).trans hu)
theorem objJ_erase {x:MapgP} {p1 p2 p3 p4:VC} {k:Nat} (hk:k<4):objJ ((xs4 x p1 p2 p3 p4).eraseIdx k)=brokJ x k:=by
 have h4:k=0∨k=1∨k=2∨k=3:=by omega
 rcases h4 with rfl | rfl | rfl | rfl <;> rfl
def lessI (w1:World) (x:MapgP) (k:Nat) (p1 p2 p3 p4:VC) (pv av bv:Value) (dn:Nat→Bool) (vs:Nat→Value) (w:World):Prop :=
 Below w1.heap.size w1 w ∧
 (dn 0=true→dn 4=false→∃ g,vs 0=.slice (some ⟨g,0,none⟩) 0 0∧w1.heap.size≤g∧BlkAt w g 41 #[]) ∧
 (dn 1=true→vs 1=pv) ∧
 (dn 2=true→vs 2=.int .i64 k) ∧
 (dn 3=true→vs 3=av) ∧
 (dn 4=true→dn 9=false→w.ownsRow w1.heap.size 41 6 (vs 4) k (xmCells ((xs4 x p1 p2 p3 p4).take k))) ∧
 (dn 5=true→vs 5=pv) ∧
 (dn 6=true→vs 6=.int .i64 k) ∧
 (dn 7=true→vs 7=.int .i64 (k+1)) ∧
 (dn 8=true→vs 8=bv) ∧
 (dn 9=true→dn 15=false→w.ownsRow w1.heap.size 41 6 (vs 9) 3 (xmCells ((xs4 x p1 p2 p3 p4).eraseIdx k))) ∧
 (dn 10=true→∃ z:VC,vs 10=.tuple #[z.val,.int .i64 0]∧(dn 15=false→NewV w1.heap.size w (brokJ x k) z.val)∧∀ g,dn 14=true→vs 14=.pointer (some ⟨g,0,none⟩)→ValAt (hidden (offB w1.heap.size (some g)) w) (brokJ x k) z.val) ∧
 (dn 11=true→vs 11=vs 10) ∧
 (dn 12=true→∀ a b,vs 11=.tuple #[a,b]→vs 12=a) ∧
 (dn 13=true→∀ a b,vs 11=.tuple #[a,b]→vs 13=b) ∧
 (dn 14=true→∃ g,vs 14=.pointer (some ⟨g,0,none⟩)∧w1.heap.size≤g∧(dn 15=false→BlkAt w g 29 #[.int .u8 0,.int .i64 0,.string ⟨#[]⟩,.slice none 0 0,.slice none 0 0])) ∧
 (dn 15=true→∃ (z:VC) (g:Nat),vs 12=z.val∧vs 14=.pointer (some ⟨g,0,none⟩)∧w1.heap.size≤g∧BlkAt w g 29 #[.int .u8 z.k,.int .i64 z.n,.string z.t,.slice z.a z.l z.c,.slice z.b z.m z.e])
theorem lessI_keep {w1:World} {x:MapgP} {k:Nat} {p1 p2 p3 p4:VC} {pv av bv:Value} {dn:Nat→Bool} {vs:Nat→Value} {w w':World} (h:lessI w1 x k p1 p2 p3 p4 pv av bv dn vs w) (hb:Below w.heap.size w w'):lessI w1 x k p1 p2 p3 p4 pv av bv dn vs w':=by
 obtain ⟨i0,k0,k1,k2,k3,k4,k5,k6,k7,k8,k9,k10,k11,k12,k13,k14,k15⟩:=h
 refine ⟨below_more i0 hb,fun a b=>?_,k1,k2,k3,fun a b=>ownsRow_keep (k4 a b) hb,k5,k6,k7,k8,fun a b=>ownsRow_keep (k9 a b) hb,fun a=>?_,k11,k12,k13,fun a=>?_,fun a=>?_⟩
 ·obtain ⟨g,e,h0,h1⟩:=k0 a b
  exact ⟨g,e,h0,BlkAt.keep h1 hb⟩
 ·obtain ⟨z,e,h1,h2⟩:=k10 a
  exact ⟨z,e,fun h=>(h1 h).keepB hb,fun g c d=>(h2 g c d).imp (hid_imp fun k hk hP=>⟨hP,hb.block k hk⟩)⟩
 ·obtain ⟨g,e,h1,h2⟩:=k14 a
  exact ⟨g,e,h1,fun h=>BlkAt.keep (h2 h) hb⟩
 ·obtain ⟨z,g,e,e2,h1,h2⟩:=k15 a
  exact ⟨z,g,e,e2,h1,BlkAt.keep h2 hb⟩
theorem place4 (a:Int):∃ k:Nat,k<4∧(IntKind.u64.wrap a).tmod 4=(k:Int):=by
 have h0:0≤IntKind.u64.wrap a:=by simp [IntKind.wrap,IntKind.bits,IntKind.signed];omega
 have h1:(IntKind.u64.wrap a).tmod 4=(IntKind.u64.wrap a) % 4:=Int.tmod_eq_emod_of_nonneg h0
 exact ⟨((IntKind.u64.wrap a) % 4).toNat,by omega,by rw [h1];omega⟩
def hereL (s:ByteArray) (l:List RepoP):Bool:=l.any fun r=>decide (r.1=s)
theorem hereL_iff {s:ByteArray} {l:List RepoP}:hereL s l=true↔s ∈ namesR l:=by
 unfold hereL namesR
 rw [List.any_eq_true,List.mem_map]
 exact ⟨fun ⟨r,h1,h2⟩=>⟨r,h1,of_decide_eq_true h2⟩,fun ⟨r,h1,h2⟩=>⟨r,h1,decide_eq_true h2⟩⟩
theorem hereL_step {s:ByteArray} {l:List RepoP} {j:Nat} {r:RepoP} (h:l[j]?=some r):hereL s (l.take (j+1))=(hereL s (l.take j) || decide (r.1=s)):=by
 unfold hereL
 rw [List.take_add_one,h,List.any_append]
 simp
theorem mapg_may {M:MapP} (h:mayM M=true) {x:MapgP} (hx:wrongV x (namesR M.repos)=0):mayB (mapgJ x)=true:=by
 obtain ⟨a,b,c⟩:=mapg_good h hx
 exact (mayB_iff _).2 ⟨a,by omega,by omega⟩
theorem says_use {M:MapP} (hM:mayM M=true) {l:List MapgP} {q:Nat} (hl:∀ x ∈ l,wrongV x (namesR M.repos)=0) (hq:(l.map mapgJ).length=q) (hn:q+1≤16) {b:JV} (hg:Good 2 133 b) (bv rv:VC) (ib io pc:Nat) (want:Int) (w:World) (hP:ItemsAt (pureW w) (.slice (some ⟨ib,io,none⟩) (l.map mapgJ).length pc) (l.map mapgJ)) (hb:ValAt (pureW w) b bv.val) (hr:ValAt (pureW w) (reposJ M.repos) rv.val) (ha:errQ (chartV (sayJ (l.map mapgJ++[b]) M.repos))=want) :
 Calls Tryz.prog 13 #[bv.val,.slice (some ⟨ib,io,none⟩) q pc,.agg #[.string tRepos,.int .u8 rv.k,.int .i64 rv.n,.string rv.t,.slice rv.a rv.l rv.c,.slice rv.b rv.m rv.e],.int .i64 want] w
  fun e w'=>e=.returned (.bool true)∧Below w.heap.size w w':=by
 have h:=says25_any (l.map mapgJ) b (reposJ M.repos) bv rv ib io pc want w hP hb hr (by omega) (fun x hx=>by
  rcases List.mem_append.1 hx with hx | hx
  ·obtain ⟨y,hy,rfl⟩:=List.mem_map.1 hx
   exact Nat.le_trans (wt_ofGood (mapg_good hM (hl y hy))) (by decide)
  ·rw [List.mem_singleton.1 hx]
   exact Nat.le_trans (wt_ofGood hg) (by decide)) (Nat.le_trans (wt_ofGood (repos_good hM)) (by decide))
 rw [hq] at h
 refine h.mono fun e w' h=>⟨?_,h.2⟩
 have h1:(errQ (chartV (.mk 5 0 ⟨#[]⟩ [tMapping,tRepos] [listJ (l.map mapgJ++[b]),reposJ M.repos])) == want)=true:=by rw [beq_iff_eq];exact ha
 rw [h.1,h1]
theorem texts1_wt {s:ByteArray} (hs:s.size≤1000):wt (textsJ [s])≤2000:=by
 have h:wt (textsJ [s])=4+0+0+((4+s.size+0+0)+0):=rfl
 omega
theorem other_wt {M:MapP} (_h:mayM M=true) {x:MapgP} (hx:wrongV x (namesR M.repos)=0) {s:ByteArray} (hs:s.size≤1000):(∀ p1 p2 p3 p4,∀ y ∈ xs4 (otherM x s) p1 p2 p3 p4,wt y.V≤1000000)∧wt (mapgJ (otherM x s))≤1000000000:=by
 have hp:wt (textsJ x.paths)≤1000000:=by
  have:=textsJ_may (n:=32) (fun s hs=>(path_writ ((wrongV_parts hx).2.2.1 s hs)).1) (wrongV_parts hx).2.1
  exact Nat.le_trans (wt_ofGood (d:=1) (c:=33) this) (by decide)
 have h1:=texts1_wt hs
 have hb:wt (boolJ x.term)≤4:=by cases x.term <;> exact Nat.le_of_eq rfl
 have hn:wt (numJ 1)≤4:=Nat.le_of_eq rfl
 refine ⟨fun p1 p2 p3 p4 y hy=>?_,?_⟩
 ·simp only [xs4,otherM,List.mem_cons,List.not_mem_nil,or_false] at hy
  rcases hy with rfl | rfl | rfl | rfl
  ·exact hp
  ·show wt (textsJ [s])≤_;omega
  ·show wt (boolJ x.term)≤_;omega
  ·show wt (numJ 1)≤_;omega
 ·have h2:wt (mapgJ (otherM x s))=4+0+wtN [tPaths,tRepos,tTerm,tThr]+(wt (textsJ x.paths)+(wt (textsJ [s])+(wt (boolJ x.term)+(wt (numJ 1)+0)))):=rfl
  have h3:wtN [tPaths,tRepos,tTerm,tThr]≤1000:=by decide
  omega
theorem row_put {w:World} {g:Nat} {T:TypeId} {cur:Array Value} {cs:List Value} (h:BlkAt w g T cur) (hcs:cur.toList.take 24=cs) (i0 i1 i2 i3 i4:Nat) (v0 v1 v2 v3 v4:Value) :
 ∃ cur',BlkAt (((((w.setCell ⟨g,i0,none⟩ v0).setCell ⟨g,i1,none⟩ v1).setCell ⟨g,i2,none⟩ v2).setCell ⟨g,i3,none⟩ v3).setCell ⟨g,i4,none⟩ v4) g T cur'∧cur'.toList.take 24=((((cs.set i0 v0).set i1 v1).set i2 v2).set i3 v3).set i4 v4:=by
 refine ⟨_,((((BlkAt.set h i0 v0).set i1 v1).set i2 v2).set i3 v3).set i4 v4,?_⟩
 simp only [Array.toList_setIfInBounds,List.take_set,hcs]
theorem row_cells {w:World} {g:Nat} {T:TypeId} {cur:Array Value} {cs:List Value} (h:BlkAt w g T cur) (hcs:cur.toList.take 24=cs):∀ (j:Nat) (u:Value),cs[j]?=some u→w.cell? ⟨g,j,none⟩=some u:=fun j u hu=>by
 rw [h.cell]
 rw [← hcs,List.getElem?_take] at hu
 split at hu
 ·rw [← Array.getElem?_toList];exact hu
 ·cases hu
theorem own_blk {w:World} {B g c:Nat} {T:TypeId} {xs:List Value} (h:w.ownsRow B T 6 (.slice (some ⟨g,0,none⟩) 4 c) 4 xs):4≤c∧c≤maxLen∧∃ cur,BlkAt w g T cur∧cur.toList.take 24=xs:=by
 rcases h.2 with ⟨e,-⟩ | ⟨g',cap,cur,e,-,hb,h4,hm,-,ht⟩
 ·cases e
 ·simp only [Value.slice.injEq,Option.some.injEq,Addr.mk.injEq,true_and,and_true] at e
  obtain ⟨rfl,rfl⟩:=e
  exact ⟨h4,hm,cur,hb,ht⟩
theorem xmCells_app (a b:List XM):xmCells (a++b)=xmCells a++xmCells b:=by simp [xmCells]
theorem xm_split (xs:List XM) (k:Nat):xmCells (xs.eraseIdx k)=xmCells (xs.take k)++xmCells (xs.drop (k+1)):=by
 rw [List.eraseIdx_eq_take_drop_succ,xmCells_app]
theorem xm_news1 {w:World} {g:Nat} {xs:List XM} (h:∀ j u,(xmCells xs)[j]?=some u→w.cell? ⟨g,j,none⟩=some u) (k:Nat):∀ r u,(xmCells (xs.take k))[r]?=some u→∃ ad,(some ⟨g,0,none⟩:Option Addr)=some ad∧w.cell? (ad.add r)=some u:=fun r u hu=>by
 refine ⟨_,rfl,?_⟩
 rw [add_none,Nat.zero_add]
 refine h r u ?_
 have e:=xmCells_app (xs.take k) (xs.drop k)
 rw [List.take_append_drop] at e
 rw [e,List.getElem?_append_left (List.getElem?_eq_some_iff.1 hu).1]
 exact hu
theorem xm_news2 {w:World} {g c k:Nat} {xs:List XM} (h:∀ j u,(xmCells xs)[j]?=some u→w.cell? ⟨g,j,none⟩=some u) (h4:xs.length=4) (hc:4≤c) (hk:k<4):∀ r u,(xmCells (xs.drop (k+1)))[r]?=some u→∃ ad,(if c=k+1 then some ⟨g,0,none⟩ else some ⟨g,(k+1)*6,none⟩:Option Addr)=some ad∧w.cell? (ad.add r)=some u:=fun r u hu=>by
 have hl:=(List.getElem?_eq_some_iff.1 hu).1
 rw [xmCells_len,List.length_drop,h4] at hl
 have hck:¬ c=k+1:=by omega
 refine ⟨_,if_neg hck,?_⟩
 rw [add_none]
 refine h _ u ?_
 have e:=xmCells_app (xs.take (k+1)) (xs.drop (k+1))
 rw [List.take_append_drop] at e
 have hl1:(xmCells (xs.take (k+1))).length=(k+1)*6:=by rw [xmCells_len,List.length_take,h4];omega
 rw [e,List.getElem?_append_right (by omega),hl1,Nat.add_sub_cancel_left]
 exact hu
theorem xm_one (l:List XM):∀ u ∈ xmCells l,u.oneCell'=true:=fun u hu=>by
 obtain ⟨x,-,hx⟩:=List.mem_flatMap.1 hu
 exact XM.cells_one x u hx
theorem own_zeroM {w:World} {B g:Nat} (hB:B≤g) (h:BlkAt w g 41 #[]):w.ownsRow B 41 6 (.slice (some ⟨g,0,none⟩) 0 0) 0 []:=own_zero hB h
theorem own_slice {w:World} {B n m g:Nat} {T:TypeId} {v:Value} {xs:List Value} (h:w.ownsRow B T m v n xs) (e:v.ownBlock=some g):∃ g' c,v=.slice (some ⟨g,0,none⟩) g' c:=by
 rcases h.2 with ⟨rfl,-⟩ | ⟨g',cap,cur,rfl,-⟩
 ·cases e
 ·obtain rfl:g'=g:=Option.some.inj e
  exact ⟨_,_,rfl⟩
theorem row_apartB {w:World} {B g m n n' c:Nat} {T T':TypeId} {xs:List Value} {cs:Array Value} (h:w.ownsRow B T m (.slice (some ⟨g,0,none⟩) n' c) n xs) (h':BlkAt w g T' cs) (hT:T≠T'):False:=by
 rcases h.2 with ⟨e,-⟩ | ⟨g',cap,cur,e,-,hg,-⟩
 ·cases e
 ·simp only [Value.slice.injEq,Option.some.injEq,Addr.mk.injEq] at e
  obtain ⟨⟨rfl,-⟩,-,-⟩:=e
  have h2:w.heap[g]?=some (.cells cs T' (0,0)):=h'
  rw [hg] at h2
  simp only [Option.some.injEq,Obj.cells.injEq] at h2
  exact hT h2.2.1
def lit14 (a0 a1 a2 a3 a4 a5 a6 a7 a8 a9 a10 a11 a12 a13:Value) (k:Nat) (v:Value) (_:World):Prop :=
 match k with
 | 0=>v=a0
 | 1=>v=a1
 | 2=>v=a2
 | 3=>v=a3
 | 4=>v=a4
 | 5=>v=a5
 | 6=>v=a6
 | 7=>v=a7
 | 8=>v=a8
 | 9=>v=a9
 | 10=>v=a10
 | 11=>v=a11
 | 12=>v=a12
 | 13=>v=a13
 | _=>True
theorem bput5 {a b:World} (h:Below a.heap.size a b) {g:Nat} (hg:a.heap.size≤g) (i0 i1 i2 i3 i4:Nat) (v0 v1 v2 v3 v4:Value):Below a.heap.size a (((((b.setCell ⟨g,i0,none⟩ v0).setCell ⟨g,i1,none⟩ v1).setCell ⟨g,i2,none⟩ v2).setCell ⟨g,i3,none⟩ v3).setCell ⟨g,i4,none⟩ v4) :=
 bel_set (bel_set (bel_set (bel_set (bel_set h (p:=⟨g,i0,none⟩) hg v0) (p:=⟨g,i1,none⟩) hg v1) (p:=⟨g,i2,none⟩) hg v2) (p:=⟨g,i3,none⟩) hg v3) (p:=⟨g,i4,none⟩) hg v4
theorem heap_put5 (w:World) (b k i0 i1 i2 i3 i4:Nat) (v0 v1 v2 v3 v4:Value) (h:k≠b) :
 (((((w.setCell ⟨b,i0,none⟩ v0).setCell ⟨b,i1,none⟩ v1).setCell ⟨b,i2,none⟩ v2).setCell ⟨b,i3,none⟩ v3).setCell ⟨b,i4,none⟩ v4).heap[k]?=w.heap[k]?:=by
 rw [Below.heap_setCell _ _ _ _ h,Below.heap_setCell _ _ _ _ h,Below.heap_setCell _ _ _ _ h,Below.heap_setCell _ _ _ _ h,Below.heap_setCell _ _ _ _ h]
theorem map_names {w:World} {a1 a2:Option Addr} {n1 c1 n2 c2:Nat} {M:MapP} (h:MapAt w (.agg #[.slice a1 n1 c1,.slice a2 n2 c2]) M):∀ i x,M.repos[i]?=some x→∃ b o,a1=some ⟨b,o,none⟩∧w.cell? ⟨b,o+i*2,none⟩=some (.string x.1)∧x.1.size≤maxLen:=fun i x hx=>by
 obtain ⟨b1,d1,b2,d2,e,hr,-⟩:=h.parts
 obtain ⟨ra,rc,e2,-,hat⟩:=hr.at
 obtain ⟨b,o,-,-,e3,hc,-,hs,-⟩:=hat i x hx
 simp only [Value.agg.injEq,Array.mk.injEq,List.cons.injEq,and_true,Value.slice.injEq] at e e2
 obtain ⟨⟨rfl,-,-⟩,-⟩:=e
 obtain ⟨rfl,-⟩:=e2
 exact ⟨b,o,e3,hc,hs⟩
theorem strs_one {w:World} {b:Nat} {s:ByteArray} (h:w.cell? ⟨b,0,none⟩=some (.string s)) (hs:s.size≤maxLen):StrsAt w (.slice (some ⟨b,0,none⟩) 1 1) [s]:=by
 refine ⟨fun t ht=>by rw [List.mem_singleton.1 ht];exact hs,by simp,Or.inr ⟨b,0,1,rfl,fun i t hi=>?_⟩⟩
 match i,hi with
 | 0,hi =>
   obtain rfl:s=t:=by simpa using hi
   exact h
 | i+1,hi=>simp at hi
theorem xs4_odd (X:MapgP) (s:ByteArray) (p1 p2 p3 p4:VC) (tk tn:Int) (tt:ByteArray) (ta:Option Addr) (tl tc:Nat) (tb:Option Addr) (tm te:Nat) :
 ((((((((((xmCells (xs4 X p1 p2 p3 p4)).set 7 (.int .u8 tk)).set 8 (.int .i64 tn)).set 9 (.string tt)).set 10 (.slice ta tl tc)).set 11 (.slice tb tm te)).set 19 (.int .u8 2)).set 20 (.int .i64 1)).set 21 (.string ⟨#[]⟩)).set 22 (.slice none 0 0)).set 23 (.slice none 0 0)
   = xmCells (xs4 (otherM X s) p1 ⟨tk,tn,tt,ta,tl,tc,tb,tm,te⟩ p3 ⟨2,1,⟨#[]⟩,none,0,0,none,0,0⟩):=rfl
theorem odd_at {Q W:World} {X:MapgP} {s:ByteArray} {p1 p2 p3 p4 t:VC} (h:∀ y ∈ xs4 X p1 p2 p3 p4,ValAt Q y.V y.c.val∧y.name.size≤maxLen) (hQ:∀ p u,Q.cell? p=some u→W.cell? p=some u) (ht:ValAt W (textsJ [s]) t.val):∀ y ∈ xs4 (otherM X s) p1 t p3 ⟨2,1,⟨#[]⟩,none,0,0,none,0,0⟩,ValAt W y.V y.c.val∧y.name.size≤maxLen:=fun y hy=>by
 have e1:=h ⟨tPaths,p1,textsJ X.paths⟩ (by simp [xs4])
 have e2:=h ⟨tRepos,p2,textsJ X.repos⟩ (by simp [xs4])
 have e3:=h ⟨tTerm,p3,boolJ X.term⟩ (by simp [xs4])
 have e4:=h ⟨tThr,p4,numJ X.thr⟩ (by simp [xs4])
 simp only [xs4,List.mem_cons,List.not_mem_nil,or_false] at hy
 rcases hy with rfl | rfl | rfl | rfl
 ·exact ⟨e1.1.imp hQ,e1.2⟩
 ·exact ⟨ht,e2.2⟩
 ·exact ⟨e3.1.imp hQ,e3.2⟩
 ·exact ⟨valAt_leaf W 2 1 ⟨#[]⟩ (by decide) (by decide) (by decide) (by decide) (by decide),e4.2⟩
theorem bytesX_eq {a b:ByteArray} (h:a.data.toList=b.data.toList):a=b:=by
 cases a;cases b
 simp_all
end
end Go.Proofs.YtchinankclckjaaGreatDoor
