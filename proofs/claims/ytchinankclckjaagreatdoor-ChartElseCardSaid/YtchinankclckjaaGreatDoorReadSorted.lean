/-
 read.sorted: members in the order of their names, as an object.
-/
import Derived.Test.YtchinankclckjaaGreatDoorReadObj
import Derived.Test.YtchinankclckjaaGreatDoorStrsOwn
import Derived.Test.YtchinankclckjaaGreatDoorShelfC
import Derived.Test.YtchinankclckjaaGreatDoorShelfD
namespace Go.Proofs.YtchinankclckjaaGreatDoor
set_option maxHeartbeats 16000000
set_option maxRecDepth 100000
open Go.RowKit Go.WideMaps Go.Maps Go.Shelf
def cfM (x y:XM):Int:=Lib.compareBytes x.name.data.toList y.name.data.toList
theorem ltM (x y:XM):ltOf cfM x y=Op.bytesLess x.name.data.toList y.name.data.toList:=compare_bl _ _
theorem swoM:Go.Sort.SWO (ltOf cfM) where
 irrefl x:=by rw [ltM];exact bl_irrefl _
 trans x y z h1 h2:=by rw [ltM] at *;exact bl_trans _ _ _ h1 h2
 ntrans x y z h1 h2:=by rw [ltM] at *;exact bl_ntrans _ _ _ h1 h2
theorem cmp_any (x y:XM) (W:World):Calls Tryz.prog 148 #[.agg #[.string x.name,.int .u8 x.c.k,.int .i64 x.c.n,.string x.c.t,.slice x.c.a x.c.l x.c.c,.slice x.c.b x.c.m x.c.e],.agg #[.string y.name,.int .u8 y.c.k,.int .i64 y.c.n,.string y.c.t,.slice y.c.a y.c.l y.c.c,.slice y.c.b y.c.m y.c.e]] W fun e w'=>e=.returned (.int .i64 (cfM x y))∧∃ q os',w'=Go.Sort.grow (W.drewN q) os':=by
 have hcon:=fun W'=>Tryz.strings_Compare x.name y.name W'
 unfold cfM
 generalize Lib.compareBytes x.name.data.toList y.name.data.toList=v at hcon ⊢
 go_enter Tryz.func148,Tryz.ntmps148
 go_wp2_with (go_at_call 34;refine (hcon _).mono ?_;rintro e w' ⟨rfl,rfl⟩)
 go_ret
 exact ⟨rfl,0,_,by rw [Go.Sort.alloc_eq_grow,Go.Sort.alloc_eq_grow,Go.Sort.grow_grow];rfl⟩
theorem cmpLaysM (blk off size:Nat) (w:World):CmpLays Tryz.prog 148 #[] XM.cells 6 cfM blk off size w:=fun _ _ _ _ x y=>cmp_any x y _
theorem mems_holds {w:World} {B g cp:Nat} {xs:List XM} (h:MemsOwn w B (.slice (some ⟨g,0,none⟩) xs.length cp) xs) (_hne:xs≠[]):Go.Sort.HoldsK XM.cells 6 w g 0 xs.toArray:=by
 have hb:∃ cur,BlkAt w g 174 cur:=by
  rcases h.1.2 with ⟨e,-⟩ | ⟨g',cap,cur,e,-,hg,-⟩
  ·cases e
  ·simp only [Value.slice.injEq,Option.some.injEq,Addr.mk.injEq] at e
   obtain ⟨⟨rfl,-⟩,-⟩:=e
   exact ⟨cur,hg⟩
 obtain ⟨cur,hb⟩:=hb
 intro j hj
 rw [Go.Sort.size_flatK] at hj
 refine ⟨?_,hb.free _⟩
 have hj':j<xs.length*6:=hj
 obtain ⟨x,hx⟩:∃ x,xs[j / 6]?=some x:=⟨_,List.getElem?_eq_getElem (by omega)⟩
 have hc:=World.ownsRow.cells h.1 (g:=g) rfl
 have hadd:∀ j,(⟨g,0,none⟩:Addr).add j=⟨g,j,none⟩:=fun j=>by unfold Addr.add;split <;> simp_all
 rw [Nat.zero_add,← hadd]
 refine hc _ _ ?_
 have h6:j % 6<6:=Nat.mod_lt _ (by decide)
 have hget:=xmCells_get xs (j / 6) x hx (j % 6) h6
 rw [Nat.mul_comm,Nat.div_add_mod] at hget
 rw [hget,id,Go.Sort.get_flatK _ _ _ _ hj]
 have e1:(xs.toArray)[j / 6]! = x:=by
  have:(xs.toArray)[j / 6]?=some x:=by simpa using hx
  rw [getElem!_def,this]
 rw [e1,getElem!_def]
 rw [List.getElem?_eq_getElem (by rw [XM.cells_len];exact h6)]
theorem heap_sort (w:World) (g n k:Nat) (d:Array XM) (os:Array Obj) (hne:k≠g) (hk:k<w.heap.size):(sortWorldK XM.cells 6 w g 0 n d os).heap[k]?=w.heap[k]?:=by
 show ((w.heap.modify g _)++os)[k]?=_
 rw [Array.getElem?_append_left (by rw [Array.size_modify];exact hk),Array.getElem?_modify,if_neg (fun e=>hne e.symm)]
theorem size_sort (w:World) (g n:Nat) (d:Array XM) (os:Array Obj):w.heap.size≤(sortWorldK XM.cells 6 w g 0 n d os).heap.size:=by
 show _≤((w.heap.modify g _)++os).size
 rw [Array.size_append,Array.size_modify]
 omega
theorem grown_sort (w:World) (g n:Nat) (d:Array XM) (os:Array Obj):w.grownBy (sortWorldK XM.cells 6 w g 0 n d os) (some g) :=
 ⟨rfl,rfl,rfl,size_sort w g n d os,fun k hk hne=>heap_sort w g n k d os (fun e=>hne (by rw [e])) hk⟩
theorem sorted_list {xs:List XM} {d':Array XM} (hp:Go.Sort.PermIn 0 xs.toArray.size xs.toArray d') (hs:Go.Sort.SortedIn (ltOf cfM) 0 xs.toArray.size d') (hd:Apart (xs.map XM.mem)):d'.toList.length=xs.length∧d'.toList.Perm xs∧d'.toList.map XM.mem=sortM (xs.map XM.mem):=by
 obtain ⟨h1,-,h3⟩:=hp
 have hl:d'.toList.length=xs.length:=by simpa using h1
 have e1:d'.extract 0 xs.toArray.size=d':=by rw [← h1];simp
 have e2:xs.toArray.extract 0 xs.toArray.size=xs.toArray:=by simp
 rw [e1,e2] at h3
 have h4:d'.toList.Perm xs:=h3
 refine ⟨hl,h4,sorted_one hd (h4.map _) ?_⟩
 rw [List.pairwise_map,List.pairwise_iff_getElem]
 intro i j hi hj hij
 have:=hs i j (Nat.zero_le _) hij (by rw [Array.length_toList] at hj;rw [← h1];exact hj)
 rw [ltM] at this
 unfold MemLe
 rw [nmLt_eq]
 have gi:d'[i]! = d'.toList[i]:=by rw [getElem!_pos d' i (by simpa using hi)];simp
 have gj:d'[j]! = d'.toList[j]:=by rw [getElem!_pos d' j (by simpa using hj)];simp
 rw [gi,gj] at this
 exact this
theorem isAggM:∀ w,(isAgg 174).run Tryz.prog w=.ok true w:=fun w=>by first | exact Tryz.isAgg174 w | kernel_rfl
theorem sizeOfM:∀ w,(Go.sizeOf 174).run Tryz.prog w=.ok 6 w:=fun w=>by first | exact Tryz.sizeOf174 w | kernel_rfl
def xmXi (y:XM):XI:=(y.c,y.V)
theorem rows_ne {w:World} {B1 B2:Nat} {e1 e2:TypeId} {s1 s2 n1 n2:Nat} {v1 v2:Value} {x1 x2:List Value} (h1:w.ownsRow B1 e1 s1 v1 n1 x1) (h2:w.ownsRow B2 e2 s2 v2 n2 x2) (hne:e1≠e2):v1.ownBlock=none∨v1.ownBlock≠v2.ownBlock:=by
 cases hv:v1.ownBlock with
 | none=>exact Or.inl rfl
 | some g =>
   right
   rcases h1.2 with ⟨rfl,-⟩ | ⟨g1,cap,cur,rfl,-,hg,-⟩
   ·cases hv
   ·simp only [Value.ownBlock,Option.some.injEq] at hv
    subst hv
    exact own_ne h2 hg hne
def rowN (ys:List XM) (i:Nat):List Value:=((ys.take i).map XM.name).map Value.string
def rowI (ys:List XM) (i:Nat):List Value:=xiCells ((ys.take i).map xmXi)
theorem xm_take (ys:List XM) (i:Nat) (y:XM) (h:ys[i]?=some y):rowN ys (i+1)=rowN ys i++[.string y.name]∧rowI ys (i+1)=rowI ys i++y.c.cells:=by
 have e:ys.take (i+1)=ys.take i++[y]:=by rw [List.take_add_one,h];rfl
 unfold rowN rowI
 rw [e]
 refine ⟨by simp,?_⟩
 rw [List.map_append]
 exact xiCells_snoc _ _
theorem sorted_any:SortC:=by
 intro w B xs a l cp hM hne hn hB hnm hd
 obtain ⟨g,cap,hv,hg0,hg1⟩:=World.ownsRow.form hM.1 (List.length_pos_iff.2 hne)
 simp only [Value.slice.injEq] at hv
 obtain ⟨rfl,rfl,rfl⟩:=hv
 have hH:=mems_holds hM hne
 have eg:∀ args w,(callFunc 148 args).run Tryz.prog w=.ok (.enter 148 args) w:=enters_of Tryz.func148 (by kernel_rfl) rfl
 have hg2:g<(w.alloc (.cells zeroCs 29)).heap.size:=by rw [size_al];omega
 have hH2:Go.Sort.HoldsK XM.cells 6 (w.alloc (.cells zeroCs 29)) g 0 xs.toArray:=by
  have:=Go.Sort.holdsK_grow (enc:=XM.cells) (k:=6) w #[.cells zeroCs 29] g 0 xs.toArray hg1 hH
  rwa [← Go.Sort.alloc_eq_grow] at this
 have hcon:=AnyQ.slices_SortFunc Tryz.sortMem 6 isAggM sizeOfM XM.cells XM.cells_len XM.cells_one cfM swoM 148 #[] g 0 cp xs.toArray _ eg (cmpLaysM g 0 xs.toArray.size _) hH2 hg2 (by show xs.length<_;omega)
 change Calls Tryz.prog 147 _ _ _ at hcon
 have HCON:Hid (Calls Tryz.prog 147 #[.slice (some ⟨g,0,none⟩) xs.length cp,.func (.func 148) #[] #[]] (w.alloc (.cells zeroCs 29)) _):=hcon
 have HM:=Lib.hid hM
 have HHOLD:=Lib.hid hH2
 have HD:=Lib.hid hd
 clear hcon hH hH2 eg hM hd
 obtain ⟨i0,hi,hz0,hz1,hz2⟩:=info_parts infoVal
 have HI:=Lib.hid hi
 have HZ0:=Lib.hid hz0
 have HZ1:=Lib.hid hz1
 have HZ2:=Lib.hid hz2
 obtain ⟨j0,hj,hy0,hy1,hy2⟩:=info_parts infoStr
 have HJ:=Lib.hid hj
 have HY0:=Lib.hid hy0
 have HY1:=Lib.hid hy1
 have HY2:=Lib.hid hy2
 clear hi hz0 hz1 hz2 hj hy0 hy1 hy2
 go_enter Tryz.func130,Tryz.ntmps130
 go_wp2_with fail
 refine HCON.out.mono ?_
 rintro e' w1 ⟨rfl,d',n,os,hp,hso,hw1⟩
 obtain ⟨hyl,hyp,hys⟩:=sorted_list hp hso HD.out
 have hgr:(w.alloc (.cells zeroCs 29)).grownBy w1 (some g):=by rw [hw1];exact grown_sort _ _ _ _ _
 have hcl:∀ (i:Nat) (y:XM),d'.toList[i]?=some y→∀ j c,y.cells[j]?=some c→w1.cell? ⟨g,i*6+j,none⟩=some c:=by
  intro i y hy j c hj
  have hsz:d'.size=xs.toArray.size:=hp.1
  have hH3:=holdsK_sortWorldK XM.cells 6 _ g 0 n xs.toArray d' os hg2 HHOLD.out hsz
  rw [← hw1] at hH3
  have hi2:i<d'.size:=by have:=(List.getElem?_eq_some_iff.1 hy).1;simpa using this
  have hj6:j<6:=by have:=(List.getElem?_eq_some_iff.1 hj).1;rwa [XM.cells_len] at this
  have h3:=(hH3.cell hi2 hj6).1
  have e1:d'[i]! = y:=by
   have:d'[i]?=some y:=by rw [← Array.getElem?_toList];exact hy
   rw [getElem!_def,this]
  rw [Nat.zero_add,e1] at h3
  rw [h3,getElem!_def,hj]
 generalize d'.toList=ys at hyl hyp hys hcl
 have HCL:=Lib.hid hcl
 have HYS:=Lib.hid hys
 have HYP:=Lib.hid hyp
 have HYL:=Lib.hid hyl
 have HGR:=Lib.hid hgr
 have hs1:w.heap.size+1≤w1.heap.size:=by have:=hgr.size;rw [size_al] at this;exact this
 have HRB:Hid (BlkAt w1 w.heap.size 29 zeroCs):=(hgr.block w.heap.size (by rw [size_al];omega) (fun e=>by have e2:w.heap.size=g:=Option.some.inj e;omega)).trans (blkAt_new w zeroCs _)
 clear hw1 hp hso hyl hyp hys hcl hgr HHOLD HD hg2 HCON
 go_wp2_with fail
 have HG2:Hid (w1.grownBy (w1.alloc (.cells #[.int .u8 5,.int .i64 0,.string ⟨#[]⟩,.slice none 0 0,.slice none 0 0] 29)) none):=World.grownBy_alloc _ _ _
 have HV2:Hid (BlkAt (w1.alloc (.cells #[.int .u8 5,.int .i64 0,.string ⟨#[]⟩,.slice none 0 0,.slice none 0 0] 29)) w1.heap.size 29 #[.int .u8 5,.int .i64 0,.string ⟨#[]⟩,.slice none 0 0,.slice none 0 0]):=blkAt_new _ _ _
 have hs2:w1.heap.size+1=(w1.alloc (.cells #[.int .u8 5,.int .i64 0,.string ⟨#[]⟩,.slice none 0 0,.slice none 0 0] 29)).heap.size:=(size_al _ _).symm
 generalize w1.alloc (.cells #[.int .u8 5,.int .i64 0,.string ⟨#[]⟩,.slice none 0 0,.slice none 0 0] 29)=w2 at HG2 HV2 hs2 ⊢
 obtain ⟨vb,hvb⟩:∃ vb,w1.heap.size=vb:=⟨_,rfl⟩
 have HVB:=Lib.hid hvb
 rw [hvb] at HV2 hs2 hs1 ⊢
 have hs2':vb+1≤w2.heap.size:=by omega
 have hgv:g<vb:=by omega
 have HL2:=Lib.hid hs2
 clear hvb hs2
 have hnn:xs.length≤9223372036854775807:=by omega
 go_loopg [11] xs.length (fun gk u wr=>∃ (i:Nat) (na:Option Addr) (nl nc:Nat) (ia:Option Addr) (il ic:Nat),gk=xs.length - i∧u=.int .i64 i∧i≤xs.length∧vb+1≤wr.heap.size∧Hid (w2.grownBy wr (some vb))∧Hid (BlkAt wr vb 29 #[.int .u8 5,.int .i64 0,.string ⟨#[]⟩,.slice na nl nc,.slice ia il ic]) ∧
  Hid (wr.ownsRow (vb+1) 9 1 (.slice na nl nc) i (rowN ys i))∧Hid (wr.ownsRow (vb+1) 29 5 (.slice ia il ic) i (rowI ys i)))
 case atStart=>exact ⟨0,none,0,0,none,0,0,rfl,rfl,Nat.zero_le _,hs2',World.grownBy.refl _ _,HV2,World.ownsRow_nil w2 (vb+1) 9 1,World.ownsRow_nil w2 (vb+1) 29 5⟩
 case round =>
  obtain ⟨i,na,nl,nc,ia,il,ic,rfl,rfl,hi,hsr,HGr,HVr,HNr,HIr⟩:=hrel
  clear HV2 hs2'
  by_cases hlt:i<xs.length
  ·have i1:(i:Int)<(xs.length:Int):=by omega
   have i00:(0:Int)≤(i:Int):=by omega
   obtain ⟨y,hy⟩:∃ y,ys[i]?=some y:=⟨_,List.getElem?_eq_getElem (by rw [HYL.out];exact hlt)⟩
   obtain ⟨hxt1,hxt2⟩:=xm_take ys i y hy
   have hcc:∀ j c,y.cells[j]?=some c→wr.cell? ⟨g,i*6+j,none⟩=some c:=by
    intro j c hj
    refine HGr.out.cell (HG2.out.cell (HCL.out i y hy j c hj) (by simp)) ?_
    intro e
    have e2:g=vb:=Option.some.inj e
    omega
   obtain ⟨nm,⟨xk,xn,xt,xa,xl,xc,xb,xm,xe⟩,V⟩:=y
   have c0:wr.cell? ⟨g,i*6,none⟩=some (.string nm):=hcc 0 _ rfl
   have c1:wr.cell? ⟨g,i*6+1,none⟩=some (.int .u8 xk):=hcc 1 _ rfl
   have c2:wr.cell? ⟨g,i*6+2,none⟩=some (.int .i64 xn):=hcc 2 _ rfl
   have c3:wr.cell? ⟨g,i*6+3,none⟩=some (.string xt):=hcc 3 _ rfl
   have c4:wr.cell? ⟨g,i*6+4,none⟩=some (.slice xa xl xc):=hcc 4 _ rfl
   have c5:wr.cell? ⟨g,i*6+5,none⟩=some (.slice xb xm xe):=hcc 5 _ rfl
   have HX1:=Lib.hid hxt1
   have HX2:=Lib.hid hxt2
   clear hxt1 hxt2 hcc hy
   obtain ⟨-,-,-,v3,-,vf⟩:=blk5 (HVr.out.alloc (.cells #[.string nm,.int .u8 xk,.int .i64 xn,.string xt,.slice xa xl xc,.slice xb xm xe] 174))
   go_wp2_with (at_builtin;refine wpList_append_own_at _ rfl _ _ 26 rfl (vb+1) 9 j0 (.string ⟨#[]⟩) 1 16 Tryz.underlying26 HJ.out HY0.out HY1.out HY2.out rfl (by decide) _ _ _ rfl (World.ownsRow.alloc (World.ownsRow.alloc HNr.out _) _) ⟨wr.heap.size+1,0,none⟩ 1 1 [.string nm] rfl rfl ?k1 ?k2 ?k3 ?k4 ?k5 ?_)
   case k2=>rfl
   case k3=>unfold maxLen;omega
   case k4=>omega
   case k5=>omega
   intro v' w4 hown4 hgrow _ hblk
   obtain ⟨g4,p4,rfl,hg4,hg4'⟩:=World.ownsRow.form hown4 (by omega)
   have hwb:∀ k,k<wr.heap.size+2→(Value.slice na nl nc).ownBlock≠some k→w4.heap[k]?=((wr.alloc (.cells #[.string nm,.int .u8 xk,.int .i64 xn,.string xt,.slice xa xl xc,.slice xb xm xe] 174)).alloc (.cells #[.string nm] 9)).heap[k]?:=fun k hk hne=>hgrow.block k (by rw [size_al,size_al];omega) (fun e=>hne e.symm)
   have hno:∀ k,k<vb+1→(Value.slice na nl nc).ownBlock≠some k:=fun k hk e=>by have:=(World.ownsRow.lt HNr.out k e).1;omega
   have hnw:(Value.slice na nl nc).ownBlock≠some wr.heap.size:=fun e=>by have:=(World.ownsRow.lt HNr.out _ e).2;omega
   have hs4:wr.heap.size+2≤w4.heap.size:=by have:=hgrow.size;rw [size_al,size_al] at this;omega
   have HV4:Hid (BlkAt w4 vb 29 #[.int .u8 5,.int .i64 0,.string ⟨#[]⟩,.slice na nl nc,.slice ia il ic]):=(hwb _ (by omega) (hno _ (by omega))).trans ((HVr.out.alloc _).alloc _)
   have HM4:Hid (BlkAt w4 wr.heap.size 174 #[.string nm,.int .u8 xk,.int .i64 xn,.string xt,.slice xa xl xc,.slice xb xm xe]):=(hwb _ (by omega) hnw).trans ((blkAt_new wr _ _).alloc _)
   have HI4:Hid (w4.ownsRow (vb+1) 29 5 (.slice ia il ic) i (rowI ys i)):=(World.ownsRow.alloc (World.ownsRow.alloc HIr.out _) _).kept hgrow (rows_ne HIr.out HNr.out (by decide))
   have HN4:Hid (w4.ownsRow (vb+1) 9 1 (.slice (some ⟨g4,0,none⟩) (i+1) p4) (i+1) (rowN ys (i+1))):=by rw [HX1.out];exact hown4
   have HG4:Hid (w2.grownBy w4 (some vb)):=⟨hgrow.os.trans HGr.out.os,hgrow.tape.trans HGr.out.tape,hgrow.output.trans HGr.out.output,by have:=HGr.out.size;omega,fun k hk hne=>by
    have hk2:k<vb+1:=by have:=HL2.out;omega
    have hk3:k<wr.heap.size:=by omega
    exact ((hwb k (by omega) (hno k hk2)).trans ((bel_alloc (bel_alloc (Below.refl wr.heap.size wr) _) _).block k hk3)).trans (HGr.out.block k hk hne)⟩
   obtain ⟨-,-,-,q3,q4,qf⟩:=blk5 HV4.out
   obtain ⟨-,m1,m2,m3,m4,m5,mf⟩:=blk6 HM4.out
   clear hown4 hgrow hblk hwb hno hnw HGr HVr HNr HIr v3 vf c0 c1 c2 c3 c4 c5
   have HI4s:Hid (World.ownsRow (w4.setCell ⟨vb,3,none⟩ (.slice (some ⟨g4,0,none⟩) (i+1) p4)) (vb+1) 29 5 (.slice ia il ic) i (rowI ys i)):=HI4.out.kept (grown_set (World.grownBy.refl _ _) _ _) (by
    cases hv:(Value.slice ia il ic).ownBlock with
    | none=>exact Or.inl rfl
    | some gg=>right;intro e;have:=(World.ownsRow.lt HI4.out gg hv).1;have e2:gg=vb:=Option.some.inj e;omega)
   have hne1:¬ vb=wr.heap.size:=by omega
   have hne2:¬ wr.heap.size=vb:=by omega
   have hss:(World.heap (w4.setCell ⟨vb,3,none⟩ (.slice (some ⟨g4,0,none⟩) (i+1) p4))).size=w4.heap.size:=by show (w4.heap.modify _ _).size=_;rw [Array.size_modify]
   have hs5:vb+1≤w4.heap.size:=by omega
   go_wp2_with (at_builtin;refine wpList_append_own_at _ rfl _ _ 27 rfl (vb+1) 29 i0 zeroV 5 80 Tryz.underlying27 HI.out HZ0.out HZ1.out HZ2.out rfl (by decide) _ _ _ rfl (World.ownsRow.alloc HI4s.out _) ⟨w4.heap.size,0,none⟩ 1 1 [.int .u8 xk,.int .i64 xn,.string xt,.slice xa xl xc,.slice xb xm xe] rfl rfl ?e1 ?e2 ?e3 ?e4 ?e5 ?_)
   case e1 =>
    intro j u hj
    have hadd:(⟨w4.heap.size,0,none⟩:Addr).add j=⟨w4.heap.size,j,none⟩:=by unfold Addr.add;split <;> simp_all
    rw [hadd,cell_al_eq _ _ _ _ _ hss.symm]
    simpa using hj
   case e2 =>
    intro u hu
    simp only [List.mem_cons,List.not_mem_nil,or_false] at hu
    rcases hu with rfl | rfl | rfl | rfl | rfl <;> rfl
   case e3=>unfold maxLen;omega
   case e4=>omega
   case e5=>rw [size_al,hss];omega
   intro v' w6 hown6 hgrow6 _ hblk6
   obtain ⟨g6,p6,rfl,hg6,hg6'⟩:=World.ownsRow.form hown6 (by omega)
   have hwb:∀ k,k<w4.heap.size→(Value.slice ia il ic).ownBlock≠some k→w6.heap[k]?=(World.heap (w4.setCell ⟨vb,3,none⟩ (.slice (some ⟨g4,0,none⟩) (i+1) p4)))[k]?:=fun k hk hne=>(hgrow6.block k (by rw [size_al,hss];omega) (fun e=>hne e.symm)).trans ((bel_alloc (Below.refl _ (w4.setCell ⟨vb,3,none⟩ (.slice (some ⟨g4,0,none⟩) (i+1) p4))) _).block k (by rw [hss];exact hk))
   have hno:∀ k,k<vb+1→(Value.slice ia il ic).ownBlock≠some k:=fun k hk e=>by have:=(World.ownsRow.lt HI4.out k e).1;omega
   have hs6:w4.heap.size+1≤w6.heap.size:=by have:=hgrow6.size;rw [size_al,hss] at this;omega
   have HV6:Hid (BlkAt w6 vb 29 #[.int .u8 5,.int .i64 0,.string ⟨#[]⟩,.slice (some ⟨g4,0,none⟩) (i+1) p4,.slice ia il ic]):=(hwb _ (by omega) (hno _ (by omega))).trans (BlkAt.set HV4.out 3 _)
   have HN4s:Hid (World.ownsRow (w4.setCell ⟨vb,3,none⟩ (.slice (some ⟨g4,0,none⟩) (i+1) p4)) (vb+1) 9 1 (.slice (some ⟨g4,0,none⟩) (i+1) p4) (i+1) (rowN ys (i+1))):=HN4.out.kept (grown_set (World.grownBy.refl _ _) _ _) (by right;intro e;have e2:g4=vb:=Option.some.inj e;omega)
   have HN6:Hid (w6.ownsRow (vb+1) 9 1 (.slice (some ⟨g4,0,none⟩) (i+1) p4) (i+1) (rowN ys (i+1))):=(World.ownsRow.alloc HN4s.out _).kept hgrow6 (rows_ne HN4.out HI4.out (by decide))
   have HI6:Hid (w6.ownsRow (vb+1) 29 5 (.slice (some ⟨g6,0,none⟩) (i+1) p6) (i+1) (rowI ys (i+1))):=by rw [HX2.out];exact hown6
   have HG6:Hid (w2.grownBy w6 (some vb)):=⟨hgrow6.os.trans HG4.out.os,hgrow6.tape.trans HG4.out.tape,hgrow6.output.trans HG4.out.output,by have:=HG4.out.size;omega,fun k hk hne=>by
    have hk2:k<vb+1:=by have:=HL2.out;omega
    have hk3:k<w4.heap.size:=by omega
    exact ((hwb k hk3 (hno k hk2)).trans (Below.heap_setCell _ _ _ _ (fun e=>hne (by rw [e])))).trans (HG4.out.block k hk hne)⟩
   obtain ⟨-,-,-,-,r4,rf⟩:=blk5 HV6.out
   clear hown6 hgrow6 hblk6 hwb hno HV4 HM4 HI4 HI4s HN4 HN4s HG4 q3 q4 qf m1 m2 m3 m4 m5 mf hss
   go_wp2_with fail
   have HV7:Hid (BlkAt (w6.setCell ⟨vb,4,none⟩ (.slice (some ⟨g6,0,none⟩) (i+1) p6)) vb 29 #[.int .u8 5,.int .i64 0,.string ⟨#[]⟩,.slice (some ⟨g4,0,none⟩) (i+1) p4,.slice (some ⟨g6,0,none⟩) (i+1) p6]):=BlkAt.set HV6.out 4 _
   have HN7:Hid (World.ownsRow (w6.setCell ⟨vb,4,none⟩ (.slice (some ⟨g6,0,none⟩) (i+1) p6)) (vb+1) 9 1 (.slice (some ⟨g4,0,none⟩) (i+1) p4) (i+1) (rowN ys (i+1))):=HN6.out.kept (grown_set (World.grownBy.refl _ _) _ _) (by right;intro e;have e2:g4=vb:=Option.some.inj e;omega)
   have HI7:Hid (World.ownsRow (w6.setCell ⟨vb,4,none⟩ (.slice (some ⟨g6,0,none⟩) (i+1) p6)) (vb+1) 29 5 (.slice (some ⟨g6,0,none⟩) (i+1) p6) (i+1) (rowI ys (i+1))):=HI6.out.kept (grown_set (World.grownBy.refl _ _) _ _) (by right;intro e;have e2:g6=vb:=Option.some.inj e;omega)
   have HG7:Hid (w2.grownBy (w6.setCell ⟨vb,4,none⟩ (.slice (some ⟨g6,0,none⟩) (i+1) p6)) (some vb)):=grown_set HG6.out _ _
   have hs7:vb+1≤(w6.setCell ⟨vb,4,none⟩ (.slice (some ⟨g6,0,none⟩) (i+1) p6)).heap.size:=by show _≤(w6.heap.modify _ _).size;rw [Array.size_modify];omega
   go_roundg (xs.length - (i+1))
   case rel=>exact ⟨i+1,_,_,_,_,_,_,rfl,by go_num,by omega,hs7,HG7,HV7,HN7,HI7⟩
   case measure=>omega
  ·have i1:¬ (i:Int)<(xs.length:Int):=by omega
   obtain rfl:i=xs.length:=by omega
   obtain ⟨v0,v1,v2,v3,v4,vf⟩:=blk5 HVr.out
   have HRr:Hid (BlkAt wr w.heap.size 29 zeroCs):=(HGr.out.block w.heap.size (by have:=HL2.out;omega) (fun e=>by have e2:w.heap.size=vb:=Option.some.inj e;omega)).trans ((HG2.out.block w.heap.size (by have:=HVB.out;omega) (by simp)).trans HRB.out)
   obtain ⟨z0,z1,z2,z3,z4,zf⟩:=blk5 HRr.out
   go_wp2_with fail
   have hset:∀ k,k≠w.heap.size→(World.heap (((((wr.setCell ⟨w.heap.size,0,none⟩ (.int .u8 5)).setCell ⟨w.heap.size,1,none⟩ (.int .i64 0)).setCell ⟨w.heap.size,2,none⟩ (.string ⟨#[]⟩)).setCell ⟨w.heap.size,3,none⟩ (.slice na nl nc)).setCell ⟨w.heap.size,4,none⟩ (.slice ia il ic)))[k]?=wr.heap[k]?:=fun k hk=>heap_set5 _ _ _ _ _ _ _ _ hk
   have hall:∀ k,k<w.heap.size→k≠g→(World.heap (((((wr.setCell ⟨w.heap.size,0,none⟩ (.int .u8 5)).setCell ⟨w.heap.size,1,none⟩ (.int .i64 0)).setCell ⟨w.heap.size,2,none⟩ (.string ⟨#[]⟩)).setCell ⟨w.heap.size,3,none⟩ (.slice na nl nc)).setCell ⟨w.heap.size,4,none⟩ (.slice ia il ic)))[k]?=w.heap[k]?:=fun k hk hkg=>by
    have a1:=HVB.out
    have a2:=HL2.out
    refine (hset k (by omega)).trans ((HGr.out.block k (by omega) (fun e=>by have e2:k=vb:=Option.some.inj e;omega)).trans ((HG2.out.block k (by omega) (by simp)).trans ?_))
    exact (HGR.out.block k (by rw [size_al];omega) (fun e=>hkg (Option.some.inj e))).trans ((bel_alloc (Below.refl w.heap.size w) _).block k hk)
   have hsz:w.heap.size≤(World.heap (((((wr.setCell ⟨w.heap.size,0,none⟩ (.int .u8 5)).setCell ⟨w.heap.size,1,none⟩ (.int .i64 0)).setCell ⟨w.heap.size,2,none⟩ (.string ⟨#[]⟩)).setCell ⟨w.heap.size,3,none⟩ (.slice na nl nc)).setCell ⟨w.heap.size,4,none⟩ (.slice ia il ic))).size:=by
    have a1:wr.grownBy (((((wr.setCell ⟨w.heap.size,0,none⟩ (.int .u8 5)).setCell ⟨w.heap.size,1,none⟩ (.int .i64 0)).setCell ⟨w.heap.size,2,none⟩ (.string ⟨#[]⟩)).setCell ⟨w.heap.size,3,none⟩ (.slice na nl nc)).setCell ⟨w.heap.size,4,none⟩ (.slice ia il ic)) (some w.heap.size):=grown_set (grown_set (grown_set (grown_set (grown_set (World.grownBy.refl _ _) _ _) _ _) _ _) _ _) _ _
    have:=a1.size
    omega
   have hnames:rowN ys xs.length=(ys.map XM.name).map Value.string:=by unfold rowN;rw [List.take_of_length_le (by rw [HYL.out];exact Nat.le_refl _)]
   have hitems:rowI ys xs.length=xiCells (ys.map xmXi):=by unfold rowI;rw [List.take_of_length_le (by rw [HYL.out];exact Nat.le_refl _)]
   have hNs:StrsAt (hidden (offB (vb+1) none) wr) (.slice na nl nc) (ys.map XM.name):=by
    refine strs_own (B1:=vb+1) ?_ (Nat.le_refl _) (fun s hs=>?_) (by rw [List.length_map,HYL.out];exact hnn)
    ·have:=HNr.out
     rw [hnames] at this
     rw [List.length_map,HYL.out]
     exact this
    ·obtain ⟨y,hy,rfl⟩:=List.mem_map.1 hs
     have:=hnm y (HYP.out.mem_iff.1 hy)
     unfold maxLen
     omega
   have hNs2:StrsAt (hidden (offB B none) (((((wr.setCell ⟨w.heap.size,0,none⟩ (.int .u8 5)).setCell ⟨w.heap.size,1,none⟩ (.int .i64 0)).setCell ⟨w.heap.size,2,none⟩ (.string ⟨#[]⟩)).setCell ⟨w.heap.size,3,none⟩ (.slice na nl nc)).setCell ⟨w.heap.size,4,none⟩ (.slice ia il ic))) (.slice na nl nc) (ys.map XM.name):=hNs.imp fun p u hu=>by
    obtain ⟨h1,hcl,h2⟩:=(hidden_cell _ _ _ _).1 hu
    have h3:=offB_none.1 h1
    refine (hidden_cell _ _ _ _).2 ⟨offB_none.2 (by omega),by rw [hset _ (by omega)];exact hcl,?_⟩
    rw [← h2]
    unfold World.cell?
    rw [hset _ (by omega)]
   have hIs:ItemsOwn (((((wr.setCell ⟨w.heap.size,0,none⟩ (.int .u8 5)).setCell ⟨w.heap.size,1,none⟩ (.int .i64 0)).setCell ⟨w.heap.size,2,none⟩ (.string ⟨#[]⟩)).setCell ⟨w.heap.size,3,none⟩ (.slice na nl nc)).setCell ⟨w.heap.size,4,none⟩ (.slice ia il ic)) B (.slice ia il ic) (ys.map xmXi):=by
    have hr0:=HIr.out
    rw [hitems] at hr0
    have hbk:=fun k e=>(World.ownsRow.lt hr0 k e).1
    refine ⟨?_,fun x hx=>?_⟩
    ·rw [List.length_map,HYL.out]
     have h1:=hr0.kept (grown_set (grown_set (grown_set (grown_set (grown_set (World.grownBy.refl wr (some w.heap.size)) 0 (.int .u8 5)) 1 (.int .i64 0)) 2 (.string ⟨#[]⟩)) 3 (.slice na nl nc)) 4 (.slice ia il ic)) (by
      cases hv:(Value.slice ia il ic).ownBlock with
      | none=>exact Or.inl rfl
      | some gg=>right;intro e;have e2:gg=w.heap.size:=Option.some.inj e;have:=hbk gg hv;omega)
     exact ⟨h1.1,h1.2.imp_right fun ⟨gg,cc,cur,a1,a2,a3⟩=>⟨gg,cc,cur,a1,by omega,a3⟩⟩
    ·obtain ⟨y,hy,rfl⟩:=List.mem_map.1 hx
     refine (HM.out.2 y (HYP.out.mem_iff.1 hy)).carry fun k hk hP=>?_
     obtain ⟨p1,p2⟩:=offB_no.1 hP
     have hkg:k≠g:=fun e=>p2 (by rw [e];rfl)
     exact ⟨offB_no.2 ⟨p1,fun e=>by have:=hbk k e;omega⟩,hall k hk hkg⟩
   have hobj:objV (xs.map XM.mem)=.mk 5 0 ⟨#[]⟩ (ys.map XM.name) ((ys.map xmXi).map Prod.snd):=by
    unfold objV
    rw [← HYS.out,List.map_map,List.map_map,List.map_map]
    rfl
   have hnew:NewV B (((((wr.setCell ⟨w.heap.size,0,none⟩ (.int .u8 5)).setCell ⟨w.heap.size,1,none⟩ (.int .i64 0)).setCell ⟨w.heap.size,2,none⟩ (.string ⟨#[]⟩)).setCell ⟨w.heap.size,3,none⟩ (.slice na nl nc)).setCell ⟨w.heap.size,4,none⟩ (.slice ia il ic)) (objV (xs.map XM.mem)) (VC.val ⟨5,0,⟨#[]⟩,na,nl,nc,ia,il,ic⟩):=by
    rw [hobj]
    exact valAt_mk (by decide) (by decide) (by decide) (by decide) (by decide) hNs2 (hIs.out (by rw [List.length_map,HYL.out];exact hnn))
   exact bodyPost_ret (v:=.agg #[.int .u8 5,.int .i64 0,.string ⟨#[]⟩,.slice na nl nc,.slice ia il ic]) (by simp [results,Tryz.results130,go_sem,z0,z1,z2,z3,z4]) rfl ⟨⟨5,0,⟨#[]⟩,na,nl,nc,ia,il,ic⟩,rfl,hnew,HGr.out.os.trans (HG2.out.os.trans HGR.out.os),HGr.out.tape.trans (HG2.out.tape.trans HGR.out.tape),HGr.out.output.trans (HG2.out.output.trans HGR.out.output),hsz,fun k hk hne=>hall k hk (fun e=>hne (by rw [e];rfl))⟩
end Go.Proofs.YtchinankclckjaaGreatDoor
