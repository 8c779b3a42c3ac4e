/-
  Rows put together by append, whether there is something or not; an empty row of one's own.
  legatelaw25.says: the error that the map of a list and a member has. Written by gen_chart_say.py.
-/
import Derived.Test.YtchinankclckjaaGreatDoorValA
import Derived.Deep.AppendLies
import Derived.OwnWalk
import Derived.Test.YtchinankclckjaaGreatDoorChartMem
import Derived.Test.YtchinankclckjaaGreatDoorChartEl
import Derived.Test.YtchinankclckjaaGreatDoorSlotsR
namespace Go.Proofs.YtchinankclckjaaGreatDoor
set_option maxHeartbeats 16000000
section
open Go.RowKit
/-! Rows put together. -/
section
variable {P:Program} (w:World)
theorem run_append_anyC (base:Nat) (t ty e:TypeId) (i:TypeInfo) (z:Value) (size bytes:Nat) (ht:P.underlying t=some (.slice e)) (hi:P.info? e=some i) (hz:i.zero=some z)
 (hsize:i.size=size) (hby:i.bytes=bytes) (hzs:z.cells.size=size) (hsz:0<size)
 (v:Value) (n:Nat) (xs:List Value) (hown:w.ownsRow base e size v n xs)
 (x:Option Addr) (m c:Nat) (news:List Value) (hl:news.length=m*size) (hnews:∀ j u,news[j]?=some u→∃ ad,x=some ad∧w.cell? (ad.add j)=some u) (h1:∀ u ∈ news,u.oneCell'=true)
 (h63:n+m≤maxLen) (hbytes:(n+m)*bytes≤140737488355328) (hbase:base≤w.heap.size) :
 ∃ v' w',(Builtin.append_ #[t,t] ty #[v,.slice x m c]).run P w=.ok v' w'∧w'.ownsRow base e size v' (n+m) (xs++news)∧w.grownBy w' v.ownBlock∧(v'.ownBlock=v.ownBlock∨v'.ownBlock=some w.heap.size):=by
 cases x with
 | some ad =>
   obtain ⟨v',w',h2,h3,h4,-,h5⟩:=run_append_own_at (P:=P) w base t ty e i z size bytes ht hi hz hsize hby hzs hsz v n xs hown ad m c news hl (fun j u hu=>by obtain ⟨a,ha,hc⟩:=hnews j u hu;cases ha;exact hc) h1 h63 hbytes hbase
   exact ⟨v',w',h2,h3,h4,h5⟩
 | none =>
   have hn:news=[]:=by
    cases news with
    | nil=>rfl
    | cons u r=>obtain ⟨a,ha,-⟩:=hnews 0 u rfl;cases ha
   subst hn
   have hm:m=0:=by
    rcases Nat.eq_zero_or_pos m with h | h
    ·exact h
    ·have:=Nat.mul_pos h hsz
     simp at hl
     omega
   subst hm
   subst hsize
   refine ⟨v,w,?_,by rw [List.append_nil];exact hown,⟨rfl,rfl,rfl,Nat.le_refl _,fun _ _ _=>rfl⟩,.inl rfl⟩
   rcases hown.2 with ⟨rfl,rfl⟩ | ⟨g,cap,cur,rfl,hbg,hg,hnc,hcm,hcs,htake⟩
   ·simp [Builtin.append_,run_underlying ht,sizeOf,typeInfo,hi,Builtin.lenOf,Builtin.firstCells]
   ·simp [Builtin.append_,run_underlying ht,sizeOf,typeInfo,hi,Builtin.lenOf,Builtin.firstCells,hnc,storeCells]
end
end

section
set_option maxRecDepth 100000
open Go.RowKit
theorem row_xs {w:World} {b:Nat}:∀ (P:List JV) (o:Nat),RowAt w b o P→∃ xs:List XI,xs.map Prod.snd=P∧(∀ j u,(xiCells xs)[j]?=some u→w.cell? ⟨b,o+j,none⟩=some u)∧∀ x ∈ xs,ValAt w x.2 x.1.val
 | [],o,_=>⟨[],rfl,fun j u h=>by simp [xiCells] at h,fun x h=>by simp at h⟩
 | x :: r,o,h=>by
   rw [RowAt] at h
   obtain ⟨⟨c0,c1,c2,c3,c4,h0,h1,h2,h3,h4,hv⟩,hr⟩:=h
   obtain ⟨xs,e,hc,hx⟩:=row_xs r (o+5) hr
   have hv':=hv
   obtain ⟨vn,vi,e2,-,-,-,-,-,hns,his⟩:=valAt_iff.1 hv
   obtain ⟨na,nc,rfl,-,-,-⟩:=hns.parts
   obtain ⟨ia,ic,rfl,-,-⟩:=his.parts
   simp only [Value.agg.injEq,Array.mk.injEq,List.cons.injEq,and_true] at e2
   obtain ⟨rfl,rfl,rfl,rfl,rfl⟩:=e2
   refine ⟨(⟨x.k,x.n,x.t,na,x.names.length,nc,ia,x.items.length,ic⟩,x) :: xs,by rw [List.map_cons,e],fun j u hj=>?_,fun y hy=>?_⟩
   ·have hj':([Value.int .u8 x.k,.int .i64 x.n,.string x.t,.slice na x.names.length nc,.slice ia x.items.length ic]++xiCells xs)[j]?=some u:=hj
    match j,hj' with
    | 0,hj=>exact h0.trans hj
    | 1,hj=>exact h1.trans hj
    | 2,hj=>exact h2.trans hj
    | 3,hj=>exact h3.trans hj
    | 4,hj=>exact h4.trans hj
    | j+5,hj =>
      have:=hc j u hj
      rwa [show o+5+j=o+(j+5) by omega] at this
   ·rcases List.mem_cons.1 hy with rfl | hy
    ·exact hv'
    ·exact hx y hy
theorem items_row {w:World} {B n:Nat} {v:Value} {xs:List XI} (h:w.ownsRow B 29 5 v n (xiCells xs)) (hn:xs.length=n) (hl:n≤1000000) (hv:∀ x ∈ xs,ValAt (pureW w) x.2 x.1.val):∃ a c,v=.slice a n c∧ItemsAt (pureW w) v (xs.map Prod.snd):=by
 subst hn
 have h':=h
 rcases h.2 with ⟨rfl,h0⟩ | ⟨g,cap,cur,rfl,hB,hcl,hnc,_⟩
 ·have:xs=[]:=List.length_eq_zero_iff.1 h0
  subst this
  exact ⟨none,0,rfl,by simp,Or.inl ⟨rfl,_,_,rfl⟩⟩
 ·refine ⟨_,_,rfl,by rw [List.length_map];omega,Or.inr ⟨g,0,cap,by rw [List.length_map],rowAt_xi xs 0 (fun i x hx j c hj=>?_) hv,by rw [List.length_map];exact hnc⟩⟩
  have hc:=World.ownsRow.cells h' (g:=g) rfl
  have hadd:∀ j,(⟨g,0,none⟩:Addr).add j=⟨g,j,none⟩:=fun j=>by rw [add_none,Nat.zero_add]
  refine (hidden_cell _ _ _ _).2 ⟨rfl,⟨_,_,hcl⟩,?_⟩
  have hj5:j<5:=by
   have:=(List.getElem?_eq_some_iff.1 hj).1
   rwa [VC.cells_len] at this
  rw [show 0+i*5+j=i*5+j by omega,← hadd]
  exact hc _ _ ((xiCells_get xs i x hx j hj5).trans hj)
theorem wp_append_anyC {P:Program} (w:World) {o:Oper} {a:Act} {K:Act→World→Prop} {Q:Exit→Act→World→Prop} (s y:Operand) (t:TypeId)
 (ho:o.op=.call { callee:=.builtin .append,args:=#[s,y],argTypes:=#[t,t] })
 (base:Nat) (e:TypeId) (i:TypeInfo) (z:Value) (size bytes:Nat) (ht:P.underlying t=some (.slice e)) (hi:P.info? e=some i) (hz:i.zero=some z)
 (hsize:i.size=size) (hby:i.bytes=bytes) (hzs:z.cells.size=size) (hsz:0<size)
 (v:Value) (n:Nat) (xs:List Value) (hs:a.eval s=v) (hown:w.ownsRow base e size v n xs)
 (x:Option Addr) (m c:Nat) (news:List Value) (hx:a.eval y=.slice x m c) (hl:news.length=m*size) (hnews:∀ j u,news[j]?=some u→∃ ad,x=some ad∧w.cell? (ad.add j)=some u) (h1:∀ u ∈ news,u.oneCell'=true)
 (h63:n+m≤maxLen) (hbytes:(n+m)*bytes≤140737488355328) (hbase:base≤w.heap.size)
 (h:∀ v' w',w'.ownsRow base e size v' (n+m) (xs++news)→w.grownBy w' v.ownBlock→(v'.ownBlock=v.ownBlock∨v'.ownBlock=some w.heap.size)→K (a.put o.dst v') w'):Oper.wp P o a w K Q:=by
 obtain ⟨v',w',hr,h2,h3,h4⟩:=run_append_anyC (P:=P) w base t o.type e i z size bytes ht hi hz hsize hby hzs hsz v n xs hown x m c news hl hnews h1 h63 hbytes hbase
 unfold Oper.wp execOp
 simp only [ho,resolve,invoke,builtin,Sem.run_bind,Sem.run_pure,Result.andThen_ok,List.map_toArray,List.map_cons,List.map_nil,hs,hx,hr]
 exact h v' w' h2 h3 h4
theorem none_done (m k:Nat):(Array.replicate m false).getD k false=false:=by
 rw [Array.getD_eq_getD_getElem?,Array.getElem?_replicate]
 split <;> rfl
theorem own_zero {w:World} {B g:Nat} {T:TypeId} {m:Nat} (hB:B≤g) (h:BlkAt w g T #[]):w.ownsRow B T m (.slice (some ⟨g,0,none⟩) 0 0) 0 [] :=
 ⟨by simp,Or.inr ⟨g,0,#[],rfl,hB,h,Nat.le_refl _,Nat.zero_le _,by simp,by simp⟩⟩
theorem blk_apart {w:World} {g:Nat} {T T':TypeId} {cs cs':Array Value} (h:BlkAt w g T cs) (h':BlkAt w g T' cs') (hne:cs.size≠cs'.size):False:=by
 have h1:w.heap[g]?=some (.cells cs T (0,0)):=h
 have h2:w.heap[g]?=some (.cells cs' T' (0,0)):=h'
 rw [h1] at h2
 simp only [Option.some.injEq,Obj.cells.injEq] at h2
 exact hne (by rw [h2.1])
def sayI (w2:World) (n:Nat) (bef bvv:Value) (bcs:Array Value) (pcs:List Value) (LV:JV) (dn:Nat→Bool) (vs:Nat→Value) (w:World):Prop :=
 Below w2.heap.size w2 w ∧
 (dn 0=true→dn 2=false→∃ g,vs 0=.slice (some ⟨g,0,none⟩) 0 0∧w2.heap.size≤g∧BlkAt w g 29 #[]) ∧
 (dn 1=true→vs 1=bef) ∧
 (dn 2=true→dn 5=false→w.ownsRow w2.heap.size 29 5 (vs 2) n pcs) ∧
 (dn 3=true→vs 3=bvv) ∧
 (dn 4=true→dn 5=false→∃ g,vs 4=.slice (some ⟨g,0,none⟩) 1 1∧BlkAt w g 29 bcs) ∧
 (dn 5=true→w.ownsRow w2.heap.size 29 5 (vs 5) (n+1) (pcs++bcs.toList)) ∧
 (dn 6=true→∃ y:VC,vs 6=y.val∧NewV w2.heap.size w LV y.val∧∀ g,dn 7=true→vs 7=.pointer (some ⟨g,0,none⟩)→ValAt (hidden (offB w2.heap.size (some g)) w) LV y.val) ∧
 (dn 7=true→∃ g,vs 7=.pointer (some ⟨g,0,none⟩)∧w2.heap.size≤g∧BlkAt w g 29 #[.int .u8 0,.int .i64 0,.string ⟨#[]⟩,.slice none 0 0,.slice none 0 0]∧(dn 2=true→dn 5=false→(vs 2).ownBlock≠some g))
theorem sayI_keep {w2:World} {n:Nat} {bef bvv:Value} {bcs:Array Value} {pcs:List Value} {LV:JV} {dn:Nat→Bool} {vs:Nat→Value} {w w':World} (h:sayI w2 n bef bvv bcs pcs LV dn vs w) (hb:Below w.heap.size w w'):sayI w2 n bef bvv bcs pcs LV dn vs w':=by
 obtain ⟨i0,k0,k1,k2,k3,k4,k5,k6,k7⟩:=h
 refine ⟨below_more i0 hb,fun a b=>?_,k1,fun a b=>ownsRow_keep (k2 a b) hb,k3,fun a b=>?_,fun a=>ownsRow_keep (k5 a) hb,fun a=>?_,fun a=>?_⟩
 ·obtain ⟨g,e,h1,h2⟩:=k0 a b
  exact ⟨g,e,h1,BlkAt.keep h2 hb⟩
 ·obtain ⟨g,e,h2⟩:=k4 a b
  exact ⟨g,e,BlkAt.keep h2 hb⟩
 ·obtain ⟨y,e,h1,h2⟩:=k6 a
  exact ⟨y,e,h1.keepB hb,fun g c d=>(h2 g c d).imp (hid_imp fun k hk hP=>⟨hP,hb.block k hk⟩)⟩
 ·obtain ⟨g,e,h1,h2,h3⟩:=k7 a
  exact ⟨g,e,h1,BlkAt.keep h2 hb,h3⟩
theorem objectOf_two (p q:VC) (L RJ:JV) (b c:Nat) (w:World) (hp:ValAt (pureW w) L p.val) (hq:ValAt (pureW w) RJ q.val) (w1:wt L≤1000000000) (w2:wt RJ≤1000000000)
 (hc:∀ j u,(xmCells [⟨tMapping,p,L⟩,⟨tRepos,q,RJ⟩])[j]?=some u→w.cell? ⟨b,j,none⟩=some u) :
 Calls Tryz.prog 10 #[.slice (some ⟨b,0,none⟩) 2 c] w fun e w'=>∃ y:VC,e=.returned (.tuple #[y.val,.int .i64 0])∧Below w.heap.size w w'∧NewV w.heap.size w' (.mk 5 0 ⟨#[]⟩ [tMapping,tRepos] [L,RJ]) y.val:=by
 refine objectOf_any [⟨tMapping,p,L⟩,⟨tRepos,q,RJ⟩] _ w ⟨b,0,c,rfl,fun i y hy j u hu=>?_,fun y hy=>?_⟩ (by simp) (by simp) ?_ (fun y hy=>?_)
 ·refine hc _ _ ?_ |> fun h=>by rwa [Nat.zero_add]
  have hj6:j<6:=by have:=(List.getElem?_eq_some_iff.1 hu).1;rwa [XM.cells_len] at this
  rw [xmCells_get _ i y hy j hj6]
  exact hu
 ·simp only [List.mem_cons,List.not_mem_nil,or_false] at hy
  rcases hy with rfl | rfl
  ·exact ⟨hp,by show tMapping.size≤maxLen;decide⟩
  ·exact ⟨hq,by show tRepos.size≤maxLen;decide⟩
 ·unfold XLt
  simp only [List.pairwise_cons,List.mem_cons,List.not_mem_nil,or_false,forall_eq,List.Pairwise.nil,and_true]
  refine ⟨?_,?_⟩ <;> first | kernel_rfl | simp
 ·simp only [List.mem_cons,List.not_mem_nil,or_false] at hy
  rcases hy with rfl | rfl
  ·exact w1
  ·exact w2
def errQ:PQ MapP→Int
 | .bad e=>e
 | .ok _=>0
theorem says25_any (P:List JV) (b RJ:JV) (bv rv:VC) (ib io pc:Nat) (want:Int) (w:World) (hP:ItemsAt (pureW w) (.slice (some ⟨ib,io,none⟩) P.length pc) P) (hb:ValAt (pureW w) b bv.val) (hr:ValAt (pureW w) RJ rv.val)
 (hl:P.length≤100) (hwp:∀ x ∈ P++[b],wt x≤2000000) (hwr:wt RJ≤1000000000) :
 Calls Tryz.prog 13 #[bv.val,.slice (some ⟨ib,io,none⟩) P.length pc,.agg #[.string tRepos,.int .u8 rv.k,.int .i64 rv.n,.string rv.t,.slice rv.a rv.l rv.c,.slice rv.b rv.m rv.e],.int .i64 want] w
  fun e w'=>e=.returned (.bool (errQ (chartV (.mk 5 0 ⟨#[]⟩ [tMapping,tRepos] [listJ (P++[b]),RJ])) == want))∧Below w.heap.size w w':=by
 obtain ⟨n,hn⟩:∃ n,P.length=n:=⟨_,rfl⟩
 have hxs:∃ xs:List XI,xs.map Prod.snd=P∧(∀ j u,(xiCells xs)[j]?=some u→(pureW w).cell? ⟨ib,io+j,none⟩=some u)∧∀ x ∈ xs,ValAt (pureW w) x.2 x.1.val:=by
  rcases hP.2 with ⟨h0,-⟩ | ⟨b',o',c',e,h1,-⟩
  ·exact ⟨[],h0.symm,fun j u h=>by simp [xiCells] at h,fun x h=>by simp at h⟩
  ·simp only [Value.slice.injEq,Option.some.injEq,Addr.mk.injEq,and_true] at e
   obtain ⟨⟨rfl,rfl⟩,-,-⟩:=e
   exact row_xs P _ h1
 obtain ⟨xs,hxm,hxc,hxv⟩:=hxs
 have hxl:xs.length=n:=by rw [← hn,← hxm,List.length_map]
 obtain ⟨pcs,hpcs⟩:∃ z,xiCells xs=z:=⟨_,rfl⟩
 rw [hpcs] at hxc
 rw [hn] at hl ⊢
 obtain ⟨bk,bn,bt,ba,bl,bc,bb,bm,be⟩:=bv
 obtain ⟨rk,rn,rt,ra,rl,rc,rb,rm,re⟩:=rv
 have HPL:Hid (pcs.length=n*5):=by show _=_;rw [← hpcs,xiCells_len,hxl]
 have HP1:Hid (∀ u ∈ pcs,u.oneCell'=true):=fun u hu=>by
  rw [← hpcs] at hu
  obtain ⟨x,-,hx⟩:=List.mem_flatMap.1 hu
  exact VC.cells_one x.1 u hx
 have HLN:Hid ((P++[b]).length≤1000000):=by show _≤_;rw [List.length_append,hn,List.length_singleton];omega
 have HLW:Hid (∀ x ∈ P++[b],wt x≤1000000000):=fun x hx=>Nat.le_trans (hwp x hx) (by decide)
 have HW1:Hid (wt (listJ (P++[b]))≤1000000000):=by
  have h1:=wtL_le (n:=101) hwp (by rw [List.length_append,hn,List.length_singleton];omega)
  show wt (listJ (P++[b]))≤_
  rw [wt_eq]
  show 4+0+0+wtL (P++[b])≤_
  omega
 obtain ⟨w2,hw2⟩:∃ y,y=(w.alloc (.cells #[.int .u8 bk,.int .i64 bn,.string bt,.slice ba bl bc,.slice bb bm be] 29)).alloc (.cells #[.string tRepos,.int .u8 rk,.int .i64 rn,.string rt,.slice ra rl rc,.slice rb rm re] 41):=⟨_,rfl⟩
 have hb2:Below w.heap.size w w2:=by rw [hw2];exact bel_alloc (bel_alloc (Below.refl _ _) _) _
 have hs2:w2.heap.size=w.heap.size+2:=by rw [hw2,size_al,size_al]
 have HV2:Hid (BlkAt w2 w.heap.size 29 #[.int .u8 bk,.int .i64 bn,.string bt,.slice ba bl bc,.slice bb bm be]):=by rw [hw2];exact (blkAt_new w _ _).alloc _
 have HM2:Hid (BlkAt w2 (w.heap.size+1) 41 #[.string tRepos,.int .u8 rk,.int .i64 rn,.string rt,.slice ra rl rc,.slice rb rm re]):=by
  rw [hw2]
  have:=blkAt_new (w.alloc (.cells #[.int .u8 bk,.int .i64 bn,.string bt,.slice ba bl bc,.slice bb bm be] 29)) #[.string tRepos,.int .u8 rk,.int .i64 rn,.string rt,.slice ra rl rc,.slice rb rm re] 41
  rwa [size_al] at this
 have HPC:Hid (∀ j u,pcs[j]?=some u→w2.cell? ⟨ib,io+j,none⟩=some u):=fun j u hj=>cell_keep hb2 (pure_cell (hxc j u hj)).2
 have HLS:Hid (∀ v Y,Below w2.heap.size w2 Y→Y.ownsRow w2.heap.size 29 5 v (n+1) (pcs++[.int .u8 bk,.int .i64 bn,.string bt,.slice ba bl bc,.slice bb bm be])→∃ a c,v=.slice a (n+1) c∧ItemsAt (pureW Y) (.slice a (n+1) c) (P++[b])):=fun v Y hY ho=>by
  have hk:=below_more hb2 hY
  obtain ⟨a,c,e,h1⟩:=items_row (xs:=xs++[((⟨bk,bn,bt,ba,bl,bc,bb,bm,be⟩:VC),b)]) (n:=n+1) (by rw [xiCells_snoc,hpcs];exact ho) (by rw [List.length_append,hxl];rfl) (by omega) (fun x hx=>by
   rcases List.mem_append.1 hx with hx | hx
   ·exact (hxv x hx).imp (pure_keep hk)
   ·rw [List.mem_singleton.1 hx];exact hb.imp (pure_keep hk))
  rw [List.map_append,hxm] at h1
  subst e
  exact ⟨a,c,rfl,h1⟩
 have HB2:=Lib.hid hb2
 have HR2:=Lib.hid (hr.imp (pure_keep hb2))
 have HWR:=Lib.hid hwr
 have HW2:=Lib.hid hw2
 obtain ⟨j0,hj,hz0,hz1,hz2⟩:=info_parts infoVal
 have HI:=Lib.hid hj
 have HZ0:=Lib.hid hz0
 have HZ1:=Lib.hid hz1
 have HZ2:=Lib.hid hz2
 obtain ⟨b0,b1,b2,b3,b4,bf⟩:=b5t HV2.out
 obtain ⟨tb,htb⟩:∃ z,w.heap.size=z:=⟨_,rfl⟩
 rw [htb] at b0 b1 b2 b3 b4 bf hs2
 have HTB:=Lib.hid htb
 clear hP hb hr hwp hwr hxc hxv hxl hpcs hxm hj hz0 hz1 hz2 hb2 hw2 htb hn
 go_enter Tryz.func13,Tryz.ntmps13
 simp only [VC.val]
 go_wp2_with fail
 rw [← HW2.out,HTB.out]
 refine wp_region_any (by kernel_rfl) ?_
 refine wpAny_putsR [(0,some 14),(1,some 15),(2,some 16),(3,some 17),(4,some 18),(5,some 19),(6,some 20),(7,some 9)] 8 [] (by kernel_rfl) (by kernel_rfl) (of_decide_eq_true (by kernel_rfl)) (sayI w2 n (.slice (some ⟨ib,io,none⟩) n pc) (.agg #[.int .u8 bk,.int .i64 bn,.string bt,.slice ba bl bc,.slice bb bm be]) #[.int .u8 bk,.int .i64 bn,.string bt,.slice ba bl bc,.slice bb bm be] pcs (listJ (P++[b]))) (fun vs=>by refine ⟨bel_drew (Below.refl _ _),?_,?_,?_,?_,?_,?_,?_,?_⟩ <;> exact fun h=>absurd ((none_done _ _).symm.trans h) (by decide)) ?_ ?_
 ·
  refine PutStepsR.at rfl (fun dn vs Y hdn hcl hdep hI K hK=>?_) ?_
  ·have HI0:=Lib.hid hI
   simp only [putsOf,pqA,pqB,Act.put,pqC,pqD,pqE] at hK ⊢
   clear hcl hdep hI hdn
   go_simp
   obtain ⟨i0,k0,k1,k2,k3,k4,k5,k6,k7⟩:=sayI_keep HI0.out (bel_alloc (Below.refl _ _) _)
   exact hK.out (.slice (some ⟨Y.heap.size,0,none⟩) 0 0) _ _ rfl ⟨i0,fun _ _=>⟨_,rfl,HI0.out.1.size,blkAt_newC _ _ _⟩,k1,k2,k3,k4,k5,k6,k7⟩
  refine PutStepsR.at rfl (fun dn vs Y hdn hcl hdep hI K hK=>?_) ?_
  ·have HI0:=Lib.hid hI
   simp only [putsOf,pqA,pqB,Act.put,pqC,pqD,pqE] at hK ⊢
   clear hcl hdep hI hdn
   go_simp
   obtain ⟨i0,k0,k1,k2,k3,k4,k5,k6,k7⟩:=sayI_keep HI0.out (Below.refl _ _)
   exact hK.out (.slice (some ⟨ib,io,none⟩) n pc) _ _ rfl ⟨i0,k0,fun _=>rfl,k2,k3,k4,k5,k6,k7⟩
  refine PutStepsR.at rfl (fun dn vs Y hdn hcl hdep hI K hK=>?_) ?_
  ·have d0:=hdep 0 (by kernel_rfl)
   have d1:=hdep 1 (by kernel_rfl)
   obtain ⟨i0,k0,k1,k2,k3,k4,k5,k6,k7⟩:=hI
   obtain ⟨g0,e0,hg0,hB0⟩:=k0 d0 hdn
   have e1:=k1 d1
   simp only [putsOf,pqA,pqB,Act.put,pqC,pqD,pqE] at hK ⊢
   rw [e0,e1] at hK ⊢
   rw [if_pos]
   rotate_left
   ·rfl
   refine wp_append_anyC Y _ _ _ rfl w2.heap.size 29 j0 _ 5 80 Tryz.underlying27 HI.out HZ0.out HZ1.out HZ2.out rfl (by decide) (.slice (some ⟨g0,0,none⟩) 0 0) 0 [] rfl (own_zero hg0 hB0) (some ⟨ib,io,none⟩) n pc pcs rfl HPL.out (fun j u hj=>⟨_,rfl,by rw [add_none];exact cell_keep i0 (HPC.out j u hj)⟩) HP1.out (by unfold maxLen;omega) (by omega) i0.size ?_
   intro v' w' hown hgr hat
   have hbw:Below w2.heap.size w2 w':=i0.grown hgr i0.size (fun k hk=>by have e2:g0=k:=Option.some.inj hk;omega)
   rw [Nat.zero_add,List.nil_append] at hown
   refine hK.out v' _ _ rfl ⟨hbw,fun _ h=>(by cases h),k1,fun _ _=>hown,k3,fun a b=>?_,fun a=>?_,fun a=>?_,fun a=>?_⟩
   ·obtain ⟨g,q1,q2⟩:=k4 a b
    have hne:g≠g0:=fun e=>by subst e;exact blk_apart q2 hB0 (by simp)
    exact ⟨g,q1,(hgr.block g q2.lt (fun e=>hne (Option.some.inj e))).trans q2⟩
   ·have h2:=hcl 5 2 a (by kernel_rfl)
    rw [hdn] at h2
    cases h2
   ·have h2:=hcl 5 2 (hcl 6 5 a (by kernel_rfl)) (by kernel_rfl)
    rw [hdn] at h2
    cases h2
   ·obtain ⟨g,q1,q2,q3,-⟩:=k7 a
    have hne:g≠g0:=fun e=>by subst e;exact blk_apart q3 hB0 (by simp)
    refine ⟨g,q1,q2,(hgr.block g q3.lt (fun e=>hne (Option.some.inj e))).trans q3,fun _ _=>?_⟩
    show v'.ownBlock≠some g
    rcases hat with e | e
    ·rw [e];exact fun h=>hne (Option.some.inj h).symm
    ·rw [e];intro h;have:=q3.lt;have:=Option.some.inj h;omega
  refine PutStepsR.at rfl (fun dn vs Y hdn hcl hdep hI K hK=>?_) ?_
  ·have y0:=cell_keep hI.1 b0
   have y1:=cell_keep hI.1 b1
   have y2:=cell_keep hI.1 b2
   have y3:=cell_keep hI.1 b3
   have y4:=cell_keep hI.1 b4
   have HI0:=Lib.hid hI
   simp only [putsOf,pqA,pqB,Act.put,pqC,pqD,pqE] at hK ⊢
   clear hcl hdep hI hdn
   go_simp
   obtain ⟨i0,k0,k1,k2,k3,k4,k5,k6,k7⟩:=sayI_keep HI0.out (Below.refl _ _)
   exact hK.out (.agg #[.int .u8 bk,.int .i64 bn,.string bt,.slice ba bl bc,.slice bb bm be]) _ _ rfl ⟨i0,k0,k1,k2,fun _=>rfl,k4,k5,k6,k7⟩
  refine PutStepsR.at rfl (fun dn vs Y hdn hcl hdep hI K hK=>?_) ?_
  ·have e3:vs 3=.agg #[.int .u8 bk,.int .i64 bn,.string bt,.slice ba bl bc,.slice bb bm be]:=hI.2.2.2.2.1 (hdep 3 (by kernel_rfl))
   have HI0:=Lib.hid hI
   simp only [putsOf,pqA,pqB,Act.put,pqC,pqD,pqE] at hK ⊢
   rw [e3] at hK ⊢
   clear hcl hdep hI hdn
   go_simp
   obtain ⟨i0,k0,k1,k2,k3,k4,k5,k6,k7⟩:=sayI_keep HI0.out (bel_alloc (Below.refl _ _) _)
   exact hK.out (.slice (some ⟨Y.heap.size,0,none⟩) 1 1) _ _ rfl ⟨i0,k0,k1,k2,k3,fun _ _=>⟨_,rfl,blkAt_newC _ _ _⟩,k5,k6,k7⟩
  refine PutStepsR.at rfl (fun dn vs Y hdn hcl hdep hI K hK=>?_) ?_
  ·have d2:=hdep 2 (by kernel_rfl)
   have d4:=hdep 4 (by kernel_rfl)
   obtain ⟨i0,k0,k1,k2,k3,k4,k5,k6,k7⟩:=hI
   have h2:=k2 d2 hdn
   obtain ⟨g4,e4,hB4⟩:=k4 d4 hdn
   simp only [putsOf,pqA,pqB,Act.put,pqC,pqD,pqE] at hK ⊢
   rw [e4] at hK ⊢
   rw [if_pos]
   rotate_left
   ·rfl
   refine wp_append_anyC Y _ _ _ rfl w2.heap.size 29 j0 _ 5 80 Tryz.underlying27 HI.out HZ0.out HZ1.out HZ2.out rfl (by decide) (vs 2) n pcs rfl h2 (some ⟨g4,0,none⟩) 1 1 [.int .u8 bk,.int .i64 bn,.string bt,.slice ba bl bc,.slice bb bm be] rfl rfl (fun j u hj=>⟨_,rfl,World.news_of_block (cs:=#[.int .u8 bk,.int .i64 bn,.string bt,.slice ba bl bc,.slice bb bm be]) (fr:=(0,0)) hB4 j u hj⟩) (by intro u hu;simp only [List.mem_cons,List.not_mem_nil,or_false] at hu;rcases hu with rfl | rfl | rfl | rfl | rfl <;> rfl) (by unfold maxLen;omega) (by omega) i0.size ?_
   intro v' w' hown hgr hat
   have hbw:Below w2.heap.size w2 w':=i0.grown hgr i0.size (fun k hk=>(World.ownsRow.lt h2 k hk).1)
   refine hK.out v' _ _ rfl ⟨hbw,fun _ h=>?_,k1,fun _ h=>(by cases h),k3,fun _ h=>(by cases h),fun _=>hown,fun a=>?_,fun a=>?_⟩
   ·have h3:dn 2=false:=h
    rw [d2] at h3
    cases h3
   ·have h3:=hcl 6 5 a (by kernel_rfl)
    rw [hdn] at h3
    cases h3
   ·obtain ⟨g,q1,q2,q3,q4⟩:=k7 a
    exact ⟨g,q1,q2,(hgr.block g q3.lt (fun e=>q4 d2 hdn e.symm)).trans q3,fun _ h=>(by cases h)⟩
  refine PutStepsR.at rfl (fun dn vs Y hdn hcl hdep hI K hK=>?_) ?_
  ·have d5:=hdep 5 (by kernel_rfl)
   have h5:=hI.2.2.2.2.2.2.1 d5
   have i0:=hI.1
   obtain ⟨va,vc,e5,hit⟩:=HLS.out _ Y i0 h5
   have HI0:=Lib.hid hI
   have HIT:=Lib.hid hit
   have HI1:=Lib.hid i0
   simp only [putsOf,pqA,pqB,Act.put,pqC,pqD,pqE] at hK ⊢
   rw [e5] at hK ⊢
   clear hcl hdep hI hdn hit h5 i0
   go_simp
   have hI:=HI0.out
   have hit:=HIT.out
   have i0:=HI1.out
   refine (listOf_any (P++[b]) _ Y hit HLN.out HLW.out).mono ?_
   rintro e w' ⟨⟨yk,yn,yt,ya,yl,yc,yb,ym,ye⟩,rfl,hb4,hv4⟩
   obtain ⟨i0',k0,k1,k2,k3,k4,k5,k6,k7⟩:=sayI_keep hI hb4
   refine hK.out (.agg #[.int .u8 yk,.int .i64 yn,.string yt,.slice ya yl yc,.slice yb ym ye]) _ _ rfl ⟨i0',k0,k1,k2,k3,k4,k5,fun _=>⟨⟨yk,yn,yt,ya,yl,yc,yb,ym,ye⟩,rfl,NewV.low hv4 i0.size,fun g h7 e7=>?_⟩,k7⟩
   obtain ⟨g',q1,q2,q3,-⟩:=hI.2.2.2.2.2.2.2.2 h7
   have e7':vs 7=.pointer (some ⟨g,0,none⟩):=e7
   rw [q1] at e7'
   have hgg:g'=g:=by simpa using e7'
   have hlt:=q3.lt
   exact (show ValAt (hidden (offB Y.heap.size none) w') _ _ from hv4).imp (hid_imp fun k hk hP=>⟨offB_no.2 ⟨Nat.le_trans i0.size (offB_none.1 hP),fun e=>by have:=Option.some.inj e;have:=offB_none.1 hP;omega⟩,rfl⟩)
  refine PutStepsR.at rfl (fun dn vs Y hdn hcl hdep hI K hK=>?_) PutStepsR.nil
  ·have HI0:=Lib.hid hI
   simp only [putsOf,pqA,pqB,Act.put,pqC,pqD,pqE] at hK ⊢
   clear hcl hdep hI hdn
   go_simp
   have hI:=HI0.out
   obtain ⟨i0,k0,k1,k2,k3,k4,k5,k6,k7⟩:=sayI_keep hI (bel_alloc (Below.refl _ _) _)
   refine hK.out (.pointer (some ⟨Y.heap.size,0,none⟩)) _ _ rfl ⟨i0,k0,k1,k2,k3,k4,k5,fun a=>?_,fun _=>⟨_,rfl,hI.1.size,blkAt_newC _ _ _,fun a b=>?_⟩⟩
   ·obtain ⟨y,q1,q2,-⟩:=k6 a
    obtain ⟨y',q1',q2',-⟩:=hI.2.2.2.2.2.2.2.1 a
    have hyy:y'.val=y.val:=q1'.symm.trans q1
    refine ⟨y,q1,q2,fun g _ e7=>?_⟩
    have hgg:Y.heap.size=g:=by
     have e7':Value.pointer (some ⟨Y.heap.size,0,none⟩)=.pointer (some ⟨g,0,none⟩):=e7
     simpa using e7'
    rw [← hyy]
    exact (show ValAt (hidden (offB w2.heap.size none) Y) _ _ from q2').imp (hid_imp fun k hk hP=>⟨offB_no.2 ⟨offB_none.1 hP,fun e=>by have:=Option.some.inj e;omega⟩,(bel_alloc (Below.refl _ _) _).block k hk⟩)
   ·have h2:=hI.2.2.2.1 a b
    intro e
    have:=(World.ownsRow.lt h2 Y.heap.size e).2
    omega
 ·intro dn vs Y hall hI
  obtain ⟨i0,-,-,-,-,-,-,k6,k7⟩:=hI
  obtain ⟨g,e7,hg,hZ,-⟩:=k7 (hall 7 rfl)
  obtain ⟨⟨yk,yn,yt,ya,yl,yc,yb,ym,ye⟩,e6,-,hvy⟩:=k6 (hall 6 rfl)
  have hvy:=hvy g (hall 7 rfl) e7
  simp only [VC.val] at e6
  obtain ⟨z0,z1,z2,z3,z4,zf⟩:=b5t hZ
  simp only [putsOf,pqA,pqB,Act.put,pqC,pqD,pqE]
  simp only [List.filterMap_cons,List.filterMap_nil,nthO]
  rw [e6,e7]
  refine wpList_plain rfl fun K hK=>?_
  go_simp
  refine hK _ _ ?_
  refine wpList_nil ?_
  have HY3:=Lib.hid (blk_set5 hZ (.int .u8 yk) (.int .i64 yn) (.string yt) (.slice ya yl yc) (.slice yb ym ye))
  have HB3:=Lib.hid (bset5 i0 hg (.int .u8 yk) (.int .i64 yn) (.string yt) (.slice ya yl yc) (.slice yb ym ye))
  have HV3:=Lib.hid (show ValAt (pureW (((((Y.setCell ⟨g,0,none⟩ (.int .u8 yk)).setCell ⟨g,1,none⟩ (.int .i64 yn)).setCell ⟨g,2,none⟩ (.string yt)).setCell ⟨g,3,none⟩ (.slice ya yl yc)).setCell ⟨g,4,none⟩ (.slice yb ym ye))) (listJ (P++[b])) (VC.val ⟨yk,yn,yt,ya,yl,yc,yb,ym,ye⟩) from hvy.imp (hid_imp fun k hk hP=>⟨rfl,heap_set5 _ _ _ _ _ _ _ _ (fun e=>(offB_no.1 hP).2 (by rw [e]))⟩))
  clear hvy hZ i0 k6 k7 e6 e7 hall z0 z1 z2 z3 z4 zf
  generalize ((((Y.setCell ⟨g,0,none⟩ (.int .u8 yk)).setCell ⟨g,1,none⟩ (.int .i64 yn)).setCell ⟨g,2,none⟩ (.string yt)).setCell ⟨g,3,none⟩ (.slice ya yl yc)).setCell ⟨g,4,none⟩ (.slice yb ym ye)=w3 at HY3 HB3 HV3 ⊢
  obtain ⟨q0,q1,q2,q3,q4,qf⟩:=b5t HY3.out
  have HM3:=Lib.hid (BlkAt.keep HM2.out HB3.out)
  rw [HTB.out] at HM3
  obtain ⟨m0,m1,m2,m3,m4,m5,mf⟩:=blk6 HM3.out
  obtain ⟨w4,hw4⟩:∃ y,y=w3.alloc (.cells #[.string ⟨#[109,97,112,112,105,110,103]⟩,.int .u8 yk,.int .i64 yn,.string yt,.slice ya yl yc,.slice yb ym ye,.string tRepos,.int .u8 rk,.int .i64 rn,.string rt,.slice ra rl rc,.slice rb rm re] 41):=⟨_,rfl⟩
  have hb4:Below w3.heap.size w3 w4:=by rw [hw4];exact bel_alloc (Below.refl _ _) _
  have HOB:=Lib.hid (objectOf_two ⟨yk,yn,yt,ya,yl,yc,yb,ym,ye⟩ ⟨rk,rn,rt,ra,rl,rc,rb,rm,re⟩ (listJ (P++[b])) RJ w3.heap.size 2 w4 (HV3.out.imp (pure_keep hb4)) (HR2.out.imp (pure_keep (below_more HB3.out hb4))) HW1.out HWR.out (fun j u hj=>by
   have hj':([.string ⟨#[109,97,112,112,105,110,103]⟩,.int .u8 yk,.int .i64 yn,.string yt,.slice ya yl yc,.slice yb ym ye,.string tRepos,.int .u8 rk,.int .i64 rn,.string rt,.slice ra rl rc,.slice rb rm re]:List Value)[j]?=some u:=hj
   rw [hw4,cell_al_eq _ _ _ _ _ rfl]
   simpa using hj'))
  have HB4:=Lib.hid (below_more HB3.out hb4)
  have HW4:=Lib.hid hw4
  clear hb4 hw4
  go_wp2_with fail
  rw [← HW4.out]
  refine HOB.out.mono ?_
  rintro e w5 ⟨⟨zk,zn,zt,za,zl,zc,zb,zm,ze⟩,rfl,hb5,hv5⟩
  simp only [VC.val]
  obtain ⟨w6,hw6⟩:∃ y,y=w5.alloc (.cells #[.int .u8 zk,.int .i64 zn,.string zt,.slice za zl zc,.slice zb zm ze] 29):=⟨_,rfl⟩
  have hb6:Below w5.heap.size w5 w6:=by rw [hw6];exact bel_alloc (Below.refl _ _) _
  have HOF:=Lib.hid (cOf_any (.mk 5 0 ⟨#[]⟩ [tMapping,tRepos] [listJ (P++[b]),RJ]) ⟨zk,zn,zt,za,zl,zc,zb,zm,ze⟩ w6 (valOf_pure hv5 hb6))
  have HZ6:Hid (BlkAt w6 w5.heap.size 29 #[.int .u8 zk,.int .i64 zn,.string zt,.slice za zl zc,.slice zb zm ze]):=by rw [hw6];exact blkAt_new w5 _ _
  have HB6:=Lib.hid (below_more (below_more HB4.out hb5) hb6)
  have HW6:=Lib.hid hw6
  simp only [VC.val] at HOF
  obtain ⟨u0,u1,u2,u3,u4,uf⟩:=b5t HZ6.out
  clear hb5 hb6 hv5 hw6 HOB q0 q1 q2 q3 q4 qf m0 m1 m2 m3 m4 m5 mf
  obtain ⟨R,hR⟩:∃ R,chartV (.mk 5 0 ⟨#[]⟩ [tMapping,tRepos] [listJ (P++[b]),RJ])=R:=⟨_,rfl⟩
  rw [hR] at HOF
  have HR:=Lib.hid hR
  clear hR
  rw [HW6.out] at u0 u1 u2 u3 u4 uf
  go_wp2_with fail
  rw [← HW6.out]
  refine HOF.out.mono ?_
  rintro e w7 hp7
  have HB7:=Lib.hid (below_more HB2.out (below_more HB6.out hp7.1))
  clear HOF
  cases R with
  | bad er =>
    obtain ⟨-,rfl,-⟩:=hp7
    go_wp2_with fail
    go_ret
    exact ⟨by rw [HR.out];rfl,bel_alloc HB7.out _⟩
  | ok M =>
    obtain ⟨-,a1,c1,a2,c2,rs,gs,Bm,rfl,-⟩:=hp7
    go_wp2_with fail
    go_ret
    exact ⟨by rw [HR.out];rfl,bel_alloc HB7.out _⟩
end
end Go.Proofs.YtchinankclckjaaGreatDoor
