/-
  What is read is a value that may be.
  chart.Of: the map of a value.
  pick.ObjectOf: an object that is made of members in the order of their names.
  chart.valueOf: the object of a mapping.
  The object of a map plainly: it may be, and the map of it is the map.
-/
import Derived.Test.YtchinankclckjaaGreatDoorReadP
import Derived.Test.YtchinankclckjaaGreatDoorReadList
import Derived.Test.YtchinankclckjaaGreatDoorSignP
import Derived.Test.YtchinankclckjaaGreatDoorChartI
import Derived.Test.YtchinankclckjaaGreatDoorChartV2
import Derived.Test.YtchinankclckjaaGreatDoorChartW
import Derived.BigQuiet
import Derived.Deep.RegionHeld3
namespace Go.Proofs.YtchinankclckjaaGreatDoor
set_option maxHeartbeats 16000000
section
set_option maxRecDepth 100000
open Go.RowKit
theorem writ_size {s:ByteArray} (h:writ s=true):s.size≤4096:=by
 unfold writ at h
 rw [Bool.and_eq_true,decide_eq_true_eq] at h
 exact h.1
theorem wtN_le {l:List ByteArray} (h:l.all writ=true):wtN l≤4098*l.length:=by
 induction l with
 | nil=>simp [wtN]
 | cons s r ih =>
   rw [List.all_cons,Bool.and_eq_true] at h
   have h1:=writ_size h.1
   have h2:=ih h.2
   unfold wtN at h2 ⊢
   rw [List.map_cons,List.sum_cons,List.length_cons]
   omega
theorem proper_sizes {k n:Int} {t:ByteArray} {names:List ByteArray} {items:List JV} (h:properB (.mk k n t names items)=true):t.size≤4096∧wtN names≤4098*names.length∧names.length≤items.length:=by
 have h0:=h
 rcases proper_parts h with ⟨-,-,h2,h3,-⟩ | ⟨-,h2,h3,-⟩ | ⟨h1,-,h3,-⟩ | ⟨-,-,h2,h3⟩ | ⟨h1,-,h2,h3⟩
 ·have h3':names=[]:=h3
  have h2':t.data.toList.length=0:=by rw [show t.data.toList=[] from h2];rfl
  subst h3'
  rw [size_len] at h2'
  exact ⟨by omega,by simp [wtN],by simp⟩
 ·have h3':names=[]:=h3
  have h2':t.data.toList.length=0:=by rw [show t.data.toList=[] from h2];rfl
  subst h3'
  rw [size_len] at h2'
  exact ⟨by omega,by simp [wtN],by simp⟩
 ·have h3':names=[]:=h3
  have h1':k=3:=h1
  subst h3' h1'
  refine ⟨?_,by simp [wtN],by simp⟩
  unfold properB at h0
  simp at h0
  exact writ_size h0.2.2
 ·have h3':names=[]:=h3
  have h2':t.data.toList.length=0:=by rw [show t.data.toList=[] from h2];rfl
  subst h3'
  rw [size_len] at h2'
  exact ⟨by omega,by simp [wtN],by simp⟩
 ·have h1':k=5:=h1
  have h3':names.length=items.length:=h3
  have h2':t.data.toList.length=0:=by rw [show t.data.toList=[] from h2];rfl
  subst h1'
  rw [size_len] at h2'
  refine ⟨by omega,wtN_le ?_,by omega⟩
  unfold properB at h0
  simp at h0
  rw [List.all_eq_true]
  exact h0.2.2
theorem wt_arith (a b c d l:Nat) (h1:a+4098≤8200*b) (h2:c+4098*l≤8200*d):a+c+4098*(l+1)≤8200*(b+d):=by
 have e1:4098*(l+1)=4098*l+4098:=Nat.mul_succ _ _
 have e2:8200*(b+d)=8200*b+8200*d:=Nat.mul_add _ _ _
 rw [e1,e2]
 omega
theorem wt_arith2 (t n w l b q:Nat) (h1:t≤4096) (h2:n≤4098*q) (h3:q≤l) (h4:w+4098*l≤8200*b):4+t+n+w+4098≤8200*(1+b):=by
 have e1:4098*q≤4098*l:=Nat.mul_le_mul_left _ h3
 have e2:8200*(1+b)=8200+8200*b:=by rw [Nat.mul_add]
 rw [e2]
 omega
mutual
theorem wt_good:∀ (V:JV),goodV V=true→wt V+4098≤8200*countV V
 | .mk k n t names items,h=>by
   rw [goodV,Bool.and_eq_true] at h
   obtain ⟨hp,hg⟩:=h
   obtain ⟨h1,h2,h3⟩:=proper_sizes hp
   have hl:wtL items+4098*items.length≤8200*countL items:=by
    by_cases hk:k=4∨k=5
    ·rw [if_pos hk] at hg
     exact wtL_good items hg
    ·have hi:items=[]:=proper_leaf hp (fun e=>hk (Or.inl e)) (fun e=>hk (Or.inr e))
     subst hi
     simp [wtL,countL]
   rw [wt_eq,countV]
   exact wt_arith2 _ _ _ _ _ _ h1 h2 h3 hl
theorem wtL_good:∀ (l:List JV),goodVs l=true→wtL l+4098*l.length≤8200*countL l
 | [],_=>by rw [wtL,countL,List.length_nil];exact Nat.zero_le _
 | x :: r,h=>by
   rw [goodVs,Bool.and_eq_true] at h
   have h1:=wt_good x h.1
   have h2:=wtL_good r h.2
   rw [wtL,countL,List.length_cons]
   exact wt_arith _ _ _ _ _ h1 h2
end
theorem wt_may {V:JV} (h:mayB V=true):wt V≤1000000000:=by
 obtain ⟨a,-,b⟩:=(mayB_iff V).1 h
 have:=wt_good V a
 omega
end

section
set_option maxRecDepth 100000
open Go.RowKit
theorem few_obj {n m:Nat} {s s':PS} {R V:JV} {nm:ByteArray} (h:Few n s) (he:objQ V nm m s=(R,s')):Few (n+1) s':=fun A hA=>by
 obtain ⟨R1,s1,h1⟩:∃ R s1,takeQ V nm 5 s=(R,s1):=⟨_,_,rfl⟩
 rw [objQ,h1] at he
 cases R1 with
 | none=>cases he;exact few_take h h1 A hA
 | some x =>
   simp only at he
   split at he
   ·cases he;cases hA
   ·cases he;exact few_take h h1 A hA
theorem few_list {n m:Nat} {s s':PS} {R:List JV} {V:JV} {nm:ByteArray} (h:Few n s) (he:listQ V nm m s=(R,s')):Few (n+1) s':=fun A hA=>by
 obtain ⟨R1,s1,h1⟩:∃ R s1,takeQ V nm 4 s=(R,s1):=⟨_,_,rfl⟩
 rw [listQ,h1] at he
 cases R1 with
 | none=>cases he;exact few_take h h1 A hA
 | some x =>
   simp only at he
   split at he
   ·cases he;cases hA
   ·cases he;exact few_take h h1 A hA
theorem PI.object {M:Nat} {w:World} {o B:Nat} {V:JV} {x:VC} {s:PS} (h:PI M w o B V x s) (nm:ByteArray) (most:Nat) (hA:∀ A,s=.ok A→A.length≤900) (hn:nm.size≤maxLen) (l:JV) (s':PS) (hq:Hid (objQ V nm most s=(l,s'))) :
 Calls Tryz.prog 39 #[.pointer (some ⟨o,0,none⟩),.string nm,.int .i64 most] w fun e w'=>(∃ sv:VC,e=.returned sv.val∧ValAt (hidden (offB w.heap.size none) w') l sv.val)∧PI M w' o B V x s'∧Sep w w' o (some B):=by
 obtain ⟨Q,w0,h1,h2,h3,h4,h5,h6,h7⟩:=h
 exact (pObject_any h7 nm most hA hn h7.bel.size h6 l s' hq).mono fun e' w' ⟨k1,k2,k3⟩=>⟨k1,PI.step h1 h2 h3 h4 h5 h6 k2 k3,k3⟩
theorem PI.list {M:Nat} {w:World} {o B:Nat} {V:JV} {x:VC} {s:PS} (h:PI M w o B V x s) (nm:ByteArray) (most:Nat) (hA:∀ A,s=.ok A→A.length≤900) (hn:nm.size≤maxLen) (l:List JV) (s':PS) (hq:Hid (listQ V nm most s=(l,s'))) :
 Calls Tryz.prog 41 #[.pointer (some ⟨o,0,none⟩),.string nm,.int .i64 most] w fun e w'=>(∃ sv,e=.returned sv∧ItemsAt (hidden (offB w.heap.size none) w') sv l)∧PI M w' o B V x s'∧Sep w w' o (some B):=by
 obtain ⟨Q,w0,h1,h2,h3,h4,h5,h6,h7⟩:=h
 exact (pList_any h7 nm most hA hn l s' hq).mono fun e' w' ⟨k1,k2,k3⟩=>⟨k1,PI.step h1 h2 h3 h4 h5 h6 k2 k3,k3⟩
theorem texts_len {m:Nat} {s s':PS} {l:List ByteArray} {V:JV} {nm:ByteArray} (he:textsQ V nm m s=(l,s')):l.length≤m:=by
 obtain ⟨R1,s1,h1⟩:∃ R s1,takeQ V nm 4 s=(R,s1):=⟨_,_,rfl⟩
 rw [textsQ,h1] at he
 cases R1 with
 | none=>cases he;exact Nat.zero_le _
 | some x =>
   simp only at he
   split at he
   ·cases he;exact Nat.zero_le _
   ·split at he
    ·cases he;rw [List.length_map];omega
    ·cases he;exact Nat.zero_le _
theorem num_range {s s':PS} {t hi:Int} {V:JV} {nm:ByteArray} (he:numQ V nm 1 hi s=(t,s')) (h0:0≤hi):0≤t∧t≤hi:=by
 obtain ⟨R1,s1,h1⟩:∃ R s1,takeQ V nm 2 s=(R,s1):=⟨_,_,rfl⟩
 rw [numQ,h1] at he
 cases R1 with
 | none=>cases he;omega
 | some x =>
   simp only at he
   split at he
   ·cases he;omega
   ·cases he;omega
theorem mapping_thr {V:JV} {R:List ByteArray} {m:MapgP} (h:mappingV V R=.ok m):0≤m.thr∧m.thr≤8:=by
 obtain ⟨p,s1,hs1⟩:∃ p s1,textsQ V tPaths 32 (pickQ V)=(p,s1):=⟨_,_,rfl⟩
 obtain ⟨r,s3,hs3⟩:∃ q s2,textsQ V tRepos 8 (failQ (wrongPathsV p) s1)=(q,s2):=⟨_,_,rfl⟩
 obtain ⟨tb,s5,hs5⟩:∃ q s2,boolQ V tTerm (failQ (wrongReposV r R) s3)=(q,s2):=⟨_,_,rfl⟩
 obtain ⟨tn,s6,hs6⟩:∃ q s2,numQ V tThr 1 r.length s5=(q,s2):=⟨_,_,rfl⟩
 unfold mappingV at h
 simp only [hs1,hs3,hs5,hs6] at h
 split at h
 ·cases h
 ·cases h
  have h1:=texts_len hs3
  have h2:=num_range hs6 (by omega)
  show 0≤tn∧tn≤8
  omega
theorem obj_fit {V X:JV} {nm:ByteArray} {most:Nat} {s':PS} (hm:mayB V=true) (h:objQ V nm most (pickQ V)=(X,s')):X.names.length=X.items.length∧X.items.length≤most:=by
 obtain ⟨R1,s1,h1⟩:∃ R s1,takeQ V nm 5 (pickQ V)=(R,s1):=⟨_,_,rfl⟩
 have hz:(zJ.names.length=zJ.items.length)∧zJ.items.length≤most:=⟨rfl,Nat.zero_le _⟩
 rw [objQ,h1] at h
 cases R1 with
 | none=>cases h;exact hz
 | some x =>
   simp only at h
   split at h
   ·cases h;exact hz
   ·cases h
    obtain ⟨h2,h3⟩:=takeQ_mem h1
    have h5:V.k=5:=by
     cases hp:pickQ V with
     | bad e=>rw [hp,takeQ] at h1;cases h1
     | ok A=>exact (pick_ok hp).1
    exact ⟨(may_fit (may_item hm (Or.inr h5) h2) h3).1,by omega⟩
theorem list_may {V:JV} {nm:ByteArray} {most:Nat} {s s':PS} {l:List JV} (hm:mayB V=true) (h5:∀ A,s=.ok A→V.k=5) (h:listQ V nm most s=(l,s')):(∀ y ∈ l,mayB y=true)∧l.length≤most∧((∃ A,s'=.ok A)∨l=[]):=by
 rcases list_ok h with ⟨_,-,e⟩ | ⟨B,y,h1,h2,h3,h4,e,h6⟩
 ·rw [e];exact ⟨by simp,Nat.zero_le _,Or.inr rfl⟩
 ·refine ⟨?_,h6,Or.inl ⟨_,h2⟩⟩
  rw [e]
  exact fun z hz=>may_item (may_item hm (Or.inr (h5 B h1)) h3) (Or.inl h4) hz
theorem obj_five {V X:JV} {nm:ByteArray} {most:Nat} {s':PS} {e:Int} (h:objQ V nm most (pickQ V)=(X,s')):∀ A,failQ e s'=.ok A→V.k=5:=fun A hA=>by
 cases hp:pickQ V with
 | ok A'=>exact (pick_ok hp).1
 | bad e' =>
   rw [hp,objQ,takeQ] at h
   cases h
   cases hA
attribute [local irreducible] mappingV in
theorem mapsV_step {R:List ByteArray} {l:List JV} {j:Nat} {y:JV} (hy:l[j]?=some y):mapsV R (l.drop j)=match mappingV y R with
 | .bad e=>([],e)
 | .ok m=>(m :: (mapsV R (l.drop (j+1))).1,(mapsV R (l.drop (j+1))).2):=by
 obtain ⟨h1,h2⟩:=List.getElem?_eq_some_iff.1 hy
 rw [List.drop_eq_getElem_cons h1,h2]
 conv=>lhs;unfold mapsV
 generalize mappingV y R=q
 cases q <;> rfl
theorem repoGo_len:∀ (ns:List ByteArray) (xs:List JV),(repoGo ns xs).1.length≤xs.length
 | [],xs=>by simp [repoGo]
 | _ :: _,[]=>by simp [repoGo]
 | n :: ns,x :: xs=>by
   have ih:=repoGo_len ns xs
   rw [repoGo]
   split
   ·simp
   ·split
    ·simp
    ·split
     ·simp
     ·split
      ·simp
      ·split
       ·simp only [List.length_cons];omega
       ·simp
theorem repos_few {X:JV} {Y:List RepoP × Int} (h:reposV X=Y):Y.1.length≤X.items.length:=by
 rw [← h,reposV]
 split
 ·simp
 ·exact repoGo_len _ _
theorem ReposOwn.up {w w':World} {B:Nat} {v:Value} {gs:List RX} (h:ReposOwn w B v gs) (hu:Up B w w'):ReposOwn w' B v gs :=
 ⟨row_same h.1 fun k hk=>hu.2 k (World.ownsRow.lt h.1 k hk).1 (World.ownsRow.lt h.1 k hk).2,fun g hg=>⟨(h.2 g hg).1,(h.2 g hg).2.imp (hid_imp fun k hk hP=>⟨hP,hu.2 k (offB_no.1 hP).1 hk⟩)⟩⟩
theorem MapsOwn.up {w w':World} {B:Nat} {v:Value} {gs:List GX} (h:MapsOwn w B v gs) (hu:Up B w w'):MapsOwn w' B v gs :=
 ⟨row_same h.1 fun k hk=>hu.2 k (World.ownsRow.lt h.1 k hk).1 (World.ownsRow.lt h.1 k hk).2,fun g hg=>⟨(h.2 g hg).1.imp (hid_imp fun k hk hP=>⟨hP,hu.2 k (offB_no.1 hP).1 hk⟩),(h.2 g hg).2.imp (hid_imp fun k hk hP=>⟨hP,hu.2 k (offB_no.1 hP).1 hk⟩)⟩⟩
theorem ReposOwn.lows {w:World} {B B1:Nat} {v:Value} {gs:List RX} (h:ReposOwn w B1 v gs) (hB:B≤B1):ReposOwn w B v gs:=by
 refine ⟨⟨h.1.1,?_⟩,fun g hg=>⟨(h.2 g hg).1,(h.2 g hg).2.imp (hid_imp fun k _ hP=>⟨offB_no.2 ⟨by have:=(offB_no.1 hP).1;omega,(offB_no.1 hP).2⟩,rfl⟩)⟩⟩
 rcases h.1.2 with h' | ⟨g,cap,cur,e,hB',h'⟩
 ·exact Or.inl h'
 ·exact Or.inr ⟨g,cap,cur,e,by omega,h'⟩
theorem Up.set {B b:Nat} {w w':World} (h:Up B w w') (hb:b<B) (i:Nat) (v:Value):Up B w (w'.setCell ⟨b,i,none⟩ v) :=
 ⟨by rw [setCell_size];exact h.1,fun k hk hl=>(Below.heap_setCell _ _ _ _ (by show k≠b;omega)).trans (h.2 k hk hl)⟩
def MapPost (R:PQ MapP) (w:World) (e:Ending) (w':World):Prop :=
 Below w.heap.size w w'∧match R with
 | .bad er=>e=.returned (.tuple #[.agg #[.slice none 0 0,.slice none 0 0],.int .i64 er])∧er≠0
 | .ok M=>∃ (a1:Option Addr) (c1:Nat) (a2:Option Addr) (c2:Nat) (rs:List RX) (gs:List GX) (Bm:Nat),e=.returned (.tuple #[.agg #[.slice a1 rs.length c1,.slice a2 gs.length c2],.int .i64 0])∧w.heap.size≤Bm∧ReposOwn w' w.heap.size (.slice a1 rs.length c1) rs∧(∀ k,(Value.slice a1 rs.length c1).ownBlock=some k→k<Bm)∧MapsOwn w' Bm (.slice a2 gs.length c2) gs∧rs.map RX.r=M.repos∧gs.map GX.x=M.maps∧∀ g ∈ gs,g.x.repos.length≤g.c2∧0≤g.x.thr∧g.x.thr≤8
theorem cOf_any (V:JV) (x:VC) (w:World) (h:ValAt (pureW w) V x.val) :
 Calls Tryz.prog 11 #[x.val] w (MapPost (chartV V) w):=by
 have hvw:ValAt w V x.val:=h.imp fun p u hu=>(pure_cell hu).2
 obtain ⟨mb,hmb⟩:∃ b,mayB V=b:=⟨_,rfl⟩
 have hmay:=fun W (hb:Below w.heap.size w W)=>May_any V x.val W (hvw.keep hb)
 rw [hmb] at hmay
 have HMAY:=Lib.hid hmay
 obtain ⟨R,hR⟩:∃ R,chartV V=R:=⟨_,rfl⟩
 rw [hR]
 obtain ⟨xk,xn,xt,xa,xl,xc,xb,xm,xe⟩:=x
 obtain ⟨W,hW⟩:∃ W,W=(w.alloc (.cells #[.int .u8 xk,.int .i64 xn,.string xt,.slice xa xl xc,.slice xb xm xe] 29)).alloc (.cells #[.slice none 0 0,.slice none 0 0] 25):=⟨_,rfl⟩
 have hbW:Below w.heap.size w W:=by rw [hW];exact bel_alloc (bel_alloc (Below.refl _ _) _) _
 have hrb:BlkAt W (w.heap.size+1) 25 #[.slice none 0 0,.slice none 0 0]:=by
  rw [hW]
  have:=blkAt_new (w.alloc (.cells #[.int .u8 xk,.int .i64 xn,.string xt,.slice xa xl xc,.slice xb xm xe] 29)) #[.slice none 0 0,.slice none 0 0] 25
  rwa [size_al] at this
 have hvb:BlkAt W w.heap.size 29 #[.int .u8 xk,.int .i64 xn,.string xt,.slice xa xl xc,.slice xb xm xe]:=by
  rw [hW]
  exact (blkAt_new w _ _).alloc _
 have HBW:=Lib.hid hbW
 have HRB:=Lib.hid hrb
 have HVB:=Lib.hid hvb
 have HW:=Lib.hid hW
 cases mb with
 | false =>
   unfold chartV at hR
   rw [if_pos hmb] at hR
   subst hR
   clear h hvw hmb hW hbW hrb hvb hmay
   obtain ⟨a0,a1,a2,a3,a4,af⟩:=b5 HVB.out
   go_enter Tryz.func11,Tryz.ntmps11
   simp only [VC.val] at HMAY ⊢
   go_wp2_with fail
   rw [← HW.out]
   refine (HMAY.out _ HBW.out).mono ?_
   rintro e w2 ⟨rfl,hb2⟩
   obtain ⟨r0,r1,rf⟩:=b2c (BlkAt.keep HRB.out hb2)
   have HB2:=Lib.hid (below_more HBW.out hb2)
   clear hb2
   go_wp2_with fail
   refine bodyPost_ret (v:=.tuple #[.agg #[.slice none 0 0,.slice none 0 0],.int .i64 3]) (by simp [results,Tryz.results11,go_sem,r0,r1]) rfl ⟨?_,rfl,by decide⟩
   exact bel_set (bel_set HB2.out (Nat.le_succ _) _) (Nat.le_succ _) _
 | true =>
   obtain ⟨s0,hs0⟩:∃ s,pickQ V=s:=⟨_,rfl⟩
   obtain ⟨X,s1,hs1⟩:∃ t s,objQ V tRepos 8 s0=(t,s):=⟨_,_,rfl⟩
   obtain ⟨Y,hY⟩:∃ Y,reposV X=Y:=⟨_,rfl⟩
   obtain ⟨s2,hs2⟩:∃ s,failQ Y.2 s1=s:=⟨_,rfl⟩
   obtain ⟨l,s3,hs3⟩:∃ t s,listQ V tMapping 16 s2=(t,s):=⟨_,_,rfl⟩
   obtain ⟨Z,hZ⟩:∃ Z,mapsV (namesR Y.1) l=Z:=⟨_,rfl⟩
   obtain ⟨s4,hs4⟩:∃ s,failQ Z.2 s3=s:=⟨_,rfl⟩
   have hr:(if doneQ V s4≠0 then PQ.bad (doneQ V s4) else .ok ⟨Y.1,Z.1⟩)=R:=by
    unfold chartV at hR
    rw [if_neg (by rw [hmb];decide)] at hR
    simp only [hs0,hs1,hY,hs2,hs3,hZ,hs4] at hR
    exact hR
   have f0:Few 0 s0:=hs0 ▸ few_pick V
   have f1:=few_obj f0 hs1
   have f2:Few 1 s2:=hs2 ▸ few_fail f1 _
   have f3:=few_list f2 hs3
   have f4:Few 2 s4:=hs4 ▸ few_fail f3 _
   have hX:=obj_fit hmb (hs0 ▸ hs1)
   have hl:=list_may hmb (hs2 ▸ obj_five (hs0 ▸ hs1)) hs3
   have hpf:=fun W (hb:Below w.heap.size w W)=>pOf2_any V ⟨xk,xn,xt,xa,xl,xc,xb,xm,xe⟩ W (h.imp (pure_keep hb)) (may_fit hmb) (wt_may hmb)
   unfold POf2 at hpf
   rw [hs0] at hpf
   have HOF:=Lib.hid hpf
   have HR:=Lib.hid hr
   have HS1:=Lib.hid hs1
   have HY:=Lib.hid hY
   have HS2:=Lib.hid hs2
   have HS3:=Lib.hid hs3
   have HZ:=Lib.hid hZ
   have HS4:=Lib.hid hs4
   have HF0:=Lib.hid (f0.le (show 0≤900 by omega))
   have HF2:=Lib.hid (f2.le (show 1≤900 by omega))
   have HF4:=Lib.hid (f4.le (show 2≤1000 by omega))
   have HX:=Lib.hid hX
   have HL:=Lib.hid hl
   have HN1:Hid (tRepos.size≤maxLen):=by show _≤_;decide
   have HN2:Hid (tMapping.size≤maxLen):=by show _≤_;decide
   obtain ⟨a0,a1,a2,a3,a4,af⟩:=b5 HVB.out
   clear h hvw hR hmb hW hbW hrb hvb hs0 hs1 hY hs2 hs3 hZ hs4 hr hpf hmay f0 f1 f2 f3 f4 hX hl
   go_enter Tryz.func11,Tryz.ntmps11
   simp only [VC.val] at HMAY HOF ⊢
   go_wp2_with fail
   rw [← HW.out]
   refine (HMAY.out _ HBW.out).mono ?_
   rintro e w2 ⟨rfl,hb2⟩
   have HB2:=Lib.hid (below_more HBW.out hb2)
   have hw2s:w.heap.size+1<w2.heap.size:=BlkAt.lt (BlkAt.keep HRB.out hb2)
   obtain ⟨w3,hw3⟩:∃ y,y=w2.alloc (.cells #[.slice none 0 0,.slice none 0 0] 25):=⟨_,rfl⟩
   have hb23:Below w2.heap.size w2 w3:=by rw [hw3];exact bel_alloc (Below.refl _ _) _
   have HM3:Hid (BlkAt w3 w2.heap.size 25 #[.slice none 0 0,.slice none 0 0]):=by rw [hw3];exact blkAt_new w2 _ _
   have HR3:=Lib.hid ((BlkAt.keep HRB.out hb2).keep hb23)
   have HB3:=Lib.hid (below_more HB2.out hb23)
   have hs3z:w3.heap.size=w2.heap.size+1:=by rw [hw3,size_al]
   have HW3:=Lib.hid hw3
   obtain ⟨a0,a1,a2,a3,a4,af⟩:=b5 ((BlkAt.keep HVB.out hb2).keep hb23)
   obtain ⟨b,hb⟩:∃ y,w2.heap.size=y:=⟨_,rfl⟩
   rw [hb] at hw2s HM3 hs3z
   rw [HW3.out] at a0 a1 a2 a3 a4 af
   have HBB:=Lib.hid hb
   clear hb2 hb23 hw3 hb HW HBW HRB HMAY HVB HB2
   go_wp2_with fail
   rw [← HW3.out,HBB.out]
   refine (HOF.out _ HB3.out).mono ?_
   rintro e w4 ⟨o,B,Q,w0,x',hQ,rfl,hb4,hbw0,how,hBw,ho4,hB4,hd4⟩
   have hp4:PI (b+1) w4 o B V x' s0:=⟨Q,w0,fun p u hu=>by rw [← hs3z];exact hQ p u hu,by rw [← hs3z];exact hbw0.size,by omega,by omega,ho4,hB4,hd4⟩
   have HR4:=Lib.hid (BlkAt.keep HR3.out hb4)
   have HM4:=Lib.hid (BlkAt.keep HM3.out hb4)
   have HB4:=Lib.hid (below_more HB3.out hb4)
   have HT:=Lib.hid (hp4.object tRepos 8 HF0.out HN1.out X s1 HS1)
   have hoM:b+1≤o:=by omega
   have hBM:b+1≤B:=by omega
   clear HOF HR3 HM3 HB3 hb4 hbw0 hd4 hp4 hQ how hBw hs3z a0 a1 a2 a3 a4 af HW3
   go_wp2_with fail
   refine HT.out.mono ?_
   rintro e w5 ⟨⟨⟨zk,zn,zt,za,zl,zc,zb,zm,ze⟩,rfl,hv5⟩,hp5,hsep5⟩
   have HR5:=Lib.hid (blk_sep HR4.out hsep5 (by omega) (by omega))
   have HM5:=Lib.hid (blk_sep HM4.out hsep5 (by omega) (by omega))
   have HB5:Hid (Below w.heap.size w w5):=hsep5.below HB4.out (by omega) (fun k hk=>by have:=Option.some.inj hk;omega)
   have ho5:o<w5.heap.size:=Nat.lt_of_lt_of_le ho4 hsep5.size
   have hB5:B<w5.heap.size:=Nat.lt_of_lt_of_le hB4 hsep5.size
   have HRE:=Lib.hid (reposOf_any X ⟨zk,zn,zt,za,zl,zc,zb,zm,ze⟩ w5 (hv5.imp fun p u hu=>((hidden_cell _ _ p u).1 hu).2.2) HX.out.1 (by have:=HX.out.2;omega))
   rw [HY.out] at HRE
   have HP5:=Lib.hid hp5
   simp only [VC.val] at HRE ⊢
   unfold ReposPost at HRE
   clear HT HR4 HM4 HB4 hv5 hp5 hsep5 ho4 hB4
   go_wp2_with fail
   refine HRE.out.mono ?_
   rintro e w6 ⟨ra,rc,rs,rfl,hb6,hro6,hrs⟩
   have HR6:=Lib.hid (HR5.out.keep hb6)
   have hm6:=HM5.out.keep hb6
   obtain ⟨m0,m1,mf⟩:=b2c hm6
   obtain ⟨w7,hw7⟩:∃ y,y=w6.setCell ⟨b,0,none⟩ (.slice ra rs.length rc):=⟨_,rfl⟩
   have hbz:b<w5.heap.size:=HM5.out.lt
   have HR7:Hid (BlkAt w7 (w.heap.size+1) 25 #[.slice none 0 0,.slice none 0 0]):=by rw [hw7];exact HR6.out.set_far (by omega) _ _
   have HM7:Hid (BlkAt w7 b 25 #[.slice ra rs.length rc,.slice none 0 0]):=by rw [hw7];exact hm6.set 0 _
   have HB7:Hid (Below w.heap.size w w7):=by rw [hw7];exact bel_set (below_more HB5.out hb6) (p:=⟨b,0,none⟩) (by show w.heap.size≤b;omega) _
   have hp7:PI (b+1) w7 o B V x' s1:=by rw [hw7];exact (HP5.out.keep hb6).low (by omega) _ _
   have HRO7:Hid (ReposOwn w7 w5.heap.size (.slice ra rs.length rc) rs):=by rw [hw7];exact hro6.up ((Up.of_below (Below.refl _ _)).set hbz _ _)
   have HRS:=Lib.hid hrs
   have HPF:=Lib.hid (hp7.fail Y.2)
   rw [HS2.out] at HPF
   obtain ⟨n5,hn5⟩:∃ n,w5.heap.size=n:=⟨_,rfl⟩
   rw [hn5] at HRO7 hbz ho5 hB5
   have h57:n5≤w7.heap.size:=by rw [hw7,setCell_size,← hn5];exact hb6.size
   have HW7:=Lib.hid hw7
   clear HRE HR5 HM5 HB5 hb6 hro6 hrs hm6 hp7 HP5 hn5 hw7 HR6
   go_wp2_with fail
   rw [← HW7.out]
   refine HPF.out.mono ?_
   rintro e w8 ⟨rfl,hp8,hsep8⟩
   have HR8:=Lib.hid (blk_sep HR7.out hsep8 (by omega) (by omega))
   have HM8:=Lib.hid (blk_sep HM7.out hsep8 (by omega) (by omega))
   have HB8:Hid (Below w.heap.size w w8):=hsep8.below HB7.out (by omega) (fun k hk=>by have:=Option.some.inj hk;omega)
   have HRO8:=Lib.hid (HRO7.out.up (Up.of_sep hsep8 ho5 hB5))
   have h58:n5≤w8.heap.size:=Nat.le_trans h57 hsep8.size
   have HT:=Lib.hid (hp8.list tMapping 16 HF2.out HN2.out l s3 HS3)
   clear HPF HR7 HM7 HB7 HRO7 hp8 hsep8 h57 HW7 m0 m1 mf
   go_wp2_with fail
   refine HT.out.mono ?_
   rintro e w9 ⟨⟨sl,rfl,hit⟩,hp9,hsep9⟩
   obtain ⟨la,lc,rfl,hl0,-⟩:=hit.parts
   obtain ⟨n,hn⟩:∃ n,l.length=n:=⟨_,rfl⟩
   have hn16:n≤16:=by rw [← hn];exact HL.out.2.1
   have HR9:=Lib.hid (blk_sep HR8.out hsep9 (by omega) (by omega))
   have HM9:=Lib.hid (blk_sep HM8.out hsep9 (by omega) (by omega))
   have HB9:Hid (Below w.heap.size w w9):=hsep9.below HB8.out (by omega) (fun k hk=>by have:=Option.some.inj hk;omega)
   have HRO9:=Lib.hid (HRO8.out.up (Up.of_sep hsep9 ho5 hB5))
   have HIT:=Lib.hid (hit.imp (hid_lower h58 _))
   have HN:=Lib.hid hn
   have HP9:=Lib.hid hp9
   have HZ':Hid (([]:List MapgP)++(mapsV (namesR Y.1) (l.drop 0)).1=Z.1∧(mapsV (namesR Y.1) (l.drop 0)).2=Z.2):=by
    show _∧_
    rw [List.drop_zero,List.nil_append,HZ.out]
    exact ⟨rfl,rfl⟩
   obtain ⟨M0,hM0⟩:∃ m,w9.heap.size=m:=⟨_,rfl⟩
   have hM5:n5≤M0:=by rw [← hM0];exact Nat.le_trans h58 hsep9.size
   have HM0:=Lib.hid hM0
   have HRL:Hid (∀ k,(Value.slice ra rs.length rc).ownBlock=some k→k<M0):=fun k hk=>by rw [← hM0];exact (World.ownsRow.lt HRO9.out.1 k hk).2
   obtain ⟨i0,hi,hz0,hz1,hz2⟩:=info_parts infoMapg
   have HI:=Lib.hid hi
   have HZ0:=Lib.hid hz0
   have HZ1:=Lib.hid hz1
   have HZ2:=Lib.hid hz2
   rw [hn] at HIT ⊢
   clear hi hz0 hz1 hz2 HT HR8 HM8 HB8 HRO8 hp9 hsep9 hit hl0 hn h58 hM0
   go_wp2_with fail
   go_loopw [31] (fun i wr=>∃ (j:Nat) (gs:List GX) (va:Option Addr) (vc:Nat),j≤n∧i=.int .i64 j∧M0≤wr.heap.size∧Hid (gs.length=j)∧Hid (PI (b+1) wr o B V x' s3)∧Hid (BlkAt wr (w.heap.size+1) 25 #[.slice none 0 0,.slice none 0 0])∧Hid (BlkAt wr b 25 #[.slice ra rs.length rc,.slice va j vc])∧Hid (MapsOwn wr M0 (.slice va j vc) gs)∧Hid (∀ g ∈ gs,g.x.repos.length≤g.c2∧0≤g.x.thr∧g.x.thr≤8)∧Hid (Up n5 w9 wr)∧Hid (Below w.heap.size w wr)∧Hid (gs.map GX.x++(mapsV (namesR Y.1) (l.drop j)).1=Z.1∧(mapsV (namesR Y.1) (l.drop j)).2=Z.2)) (fun i _=>n - (intOf i).toNat)
   case atStart=>exact ⟨0,[],none,0,by omega,rfl,by rw [HM0.out];exact Nat.le_refl _,rfl,HP9.out,HR9.out,HM9.out,MapsOwn.nil _ _,(by intro g hg;cases hg),Up.of_below (Below.refl _ _),HB9.out,HZ'.out⟩
   case round =>
    obtain ⟨j,gs,va,vc,hj,rfl,hMr,HGL,HPr,HRr,HMr,HOr,HKr,HUr,HBr,HQr⟩:=hrel
    clear HP9 HR9 HM9 HB9 HZ'
    by_cases hjn:j<n
    ·have hi0:(0:Int)≤(j:Int):=by omega
     have hi1:(j:Int)<(n:Int):=by omega
     obtain ⟨y,hy⟩:∃ y,l[j]?=some y:=⟨_,List.getElem?_eq_getElem (by rw [HN.out];exact hjn)⟩
     obtain ⟨ib,io,⟨yk,yn,yt,ya,yl,yc,yb,ym,ye⟩,rfl,c0,c1,c2,c3,c4,hyv⟩:=item_vc HIT.out hy
     have d0:=((hidden_cell _ _ _ _).1 (HUr.out.val _ _ c0)).2.2
     have d1:=((hidden_cell _ _ _ _).1 (HUr.out.val _ _ c1)).2.2
     have d2:=((hidden_cell _ _ _ _).1 (HUr.out.val _ _ c2)).2.2
     have d3:=((hidden_cell _ _ _ _).1 (HUr.out.val _ _ c3)).2.2
     have d4:=((hidden_cell _ _ _ _).1 (HUr.out.val _ _ c4)).2.2
     have hyp:ValAt (pureW wr) y (VC.val ⟨yk,yn,yt,ya,yl,yc,yb,ym,ye⟩):=(hyv.imp HUr.out.val).imp fun p u hu=>by
      obtain ⟨-,q2,q3⟩:=(hidden_cell _ _ _ _).1 hu
      exact (hidden_cell _ _ _ _).2 ⟨rfl,q2,q3⟩
     have hmy:=HL.out.1 y (List.mem_of_getElem? hy)
     have hst:=mapsV_step (R:=namesR Y.1) hy
     obtain ⟨wa,hwa⟩:∃ z,z=wr.alloc (.cells #[.int .u8 yk,.int .i64 yn,.string yt,.slice ya yl yc,.slice yb ym ye] 29):=⟨_,rfl⟩
     have hba:Below wr.heap.size wr wa:=by rw [hwa];exact bel_alloc (Below.refl _ _) _
     have hrl9:rs.length≤9223372036854775807:=by
      have h1:rs.length=Y.1.length:=by rw [← HRS.out,List.length_map]
      have h3:=repos_few HY.out
      have h4:=HX.out.2
      omega
     have hra:ReposAt wa (.slice ra rs.length rc) (rs.map RX.r):=((((HRO9.out.up HUr.out).keep hba).out hrl9).imp fun p u hu=>((hidden_cell _ _ p u).1 hu).2.2)
     have HMP:=Lib.hid (mappingOf_any y ⟨yk,yn,yt,ya,yl,yc,yb,ym,ye⟩ (rs.map RX.r) (.slice ra rs.length rc) wa (hyp.imp (pure_keep hba)) (may_fit hmy) (wt_may hmy) hra)
     rw [HRS.out] at HMP
     unfold MapgPost at HMP
     obtain ⟨m0,m1,mf⟩:=b2c (HMr.out.keep hba)
     have HBA:=Lib.hid hba
     have HWA:=Lib.hid hwa
     have HST:=Lib.hid hst
     rw [HWA.out] at m0 m1 mf
     clear c0 c1 c2 c3 c4 hyv hy hyp hba hwa hmy hst hra hrl9
     simp only [VC.val] at HMP
     go_wp2_with fail
     rw [← HWA.out]
     refine HMP.out.mono ?_
     rintro e w10 ⟨hb10,hcs⟩
     clear m0 m1 mf d0 d1 d2 d3 d4 HMP
     rcases hcs with ⟨m,b1,k1,b2,k2,hok,rfl,hcap,hsp,hsr⟩ | ⟨er,hne,hbad,rfl⟩
     ·have hst:=HST.out
      rw [hok] at hst
      simp only at hst
      have hth:=mapping_thr hok
      obtain ⟨mp,mr,mt,mh⟩:=m
      simp only at hcap hsp hsr hth ⊢
      obtain ⟨p1,hp1⟩:∃ p,mp.length=p:=⟨_,rfl⟩
      obtain ⟨p2,hp2⟩:∃ p,mr.length=p:=⟨_,rfl⟩
      rw [hp1] at hsp ⊢
      rw [hp2] at hcap hsr ⊢
      obtain ⟨w11,hw11⟩:∃ z,z=w10.alloc (.cells #[.slice b1 p1 k1,.slice b2 p2 k2,.bool mt,.int .i64 mh] 55):=⟨_,rfl⟩
      have hb11:Below w10.heap.size w10 w11:=by rw [hw11];exact bel_alloc (Below.refl _ _) _
      have HT11:Hid (BlkAt w11 w10.heap.size 55 #[.slice b1 p1 k1,.slice b2 p2 k2,.bool mt,.int .i64 mh]):=by rw [hw11];exact blkAt_new w10 _ _
      have hbb:=below_more (below_more HBA.out hb10) hb11
      have HM11:=Lib.hid (HMr.out.keep hbb)
      have hs11:w11.heap.size=w10.heap.size+1:=by rw [hw11,size_al]
      have HW11:=Lib.hid hw11
      have HBB11:=Lib.hid hbb
      have HSP:Hid (StrsAt (hidden (offB wr.heap.size none) w11) (.slice b1 p1 k1) mp):=strs_bel (strs_low hsp HBA.out.size) hb11
      have HSR:Hid (StrsAt (hidden (offB wr.heap.size none) w11) (.slice b2 p2 k2) mr):=strs_bel (strs_low hsr HBA.out.size) hb11
      have HCAP:=Lib.hid hcap
      have HTH:=Lib.hid hth
      have HP1:=Lib.hid hp1
      have HP2:=Lib.hid hp2
      have HST2:=Lib.hid hst
      have hlw:wr.heap.size≤w10.heap.size:=Nat.le_trans HBA.out.size hb10.size
      obtain ⟨t0,t1,t2,t3,tf⟩:=b4' HT11.out
      obtain ⟨m0,m1,mf⟩:=b2c HM11.out
      rw [HW11.out] at t0 t1 t2 t3 tf m0 m1 mf
      have hnc:∀ i u,[Value.slice b1 p1 k1,.slice b2 p2 k2,.bool mt,.int .i64 mh][i]?=some u→((w10.alloc (.cells #[.slice b1 p1 k1,.slice b2 p2 k2,.bool mt,.int .i64 mh] 55)).alloc (.cells #[.slice b1 p1 k1,.slice b2 p2 k2,.bool mt,.int .i64 mh] 55)).cell? ((⟨w10.heap.size+1,0,none⟩:Addr).add i)=some u:=fun i u hj=>by
       have hadd:(⟨w10.heap.size+1,0,none⟩:Addr).add i=⟨w10.heap.size+1,i,none⟩:=by unfold Addr.add;split <;> simp_all
       rw [hadd,cell_al_eq _ _ _ _ _ (by rw [size_al])]
       simpa using hj
      have hone:∀ u ∈ [Value.slice b1 p1 k1,.slice b2 p2 k2,.bool mt,.int .i64 mh],u.oneCell'=true:=fun u hu=>by
       simp only [List.mem_cons,List.not_mem_nil,or_false] at hu
       rcases hu with rfl | rfl | rfl | rfl <;> rfl
      have hm3:M0≤((w10.alloc (.cells #[.slice b1 p1 k1,.slice b2 p2 k2,.bool mt,.int .i64 mh] 55)).alloc (.cells #[.slice b1 p1 k1,.slice b2 p2 k2,.bool mt,.int .i64 mh] 55)).heap.size:=by rw [size_al,size_al];omega
      have hor:=(HOr.out.keep hbb).1
      rw [HGL.out] at hor
      have HOR:=Lib.hid (hw11 ▸ hor)
      have HNC:=Lib.hid hnc
      have HONE:=Lib.hid hone
      have HMX:=Lib.hid hm3
      clear hnc hone hm3 hor hok hst hth hcap hsp hsr hw11 hbb hb11 hb10 hp1 hp2
      go_wp2_with (at_builtin;refine wpList_append_own_at _ rfl _ _ 23 rfl M0 55 i0 (.agg #[.slice none 0 0,.slice none 0 0,.bool false,.int .i64 0]) 4 64 Tryz.underlying23 HI.out HZ0.out HZ1.out HZ2.out rfl (by decide) _ _ _ rfl (World.ownsRow.alloc HOR.out _) ⟨_,0,none⟩ 1 1 [.slice b1 p1 k1,.slice b2 p2 k2,.bool mt,.int .i64 mh] rfl rfl HNC.out HONE.out (by unfold maxLen;omega) (by omega) HMX.out ?_)
      intro v' w12 hown12 hgrow12 _ hat12
      rw [← HW11.out] at hgrow12
      have hat12:=hat12.imp_right (fun e:v'.ownBlock=some (w10.heap.size+1+1)=>(show v'.ownBlock=some (w11.alloc (.cells #[.slice b1 p1 k1,.slice b2 p2 k2,.bool mt,.int .i64 mh] 55)).heap.size by rw [e,size_al,hs11]))
      obtain ⟨g9,p9,rfl,hg9,hg9'⟩:=World.ownsRow.form hown12 (by omega)
      have hlow:∀ k,k<M0→(Value.slice va j vc).ownBlock≠some k:=fun k hk e=>by have:=(World.ownsRow.lt HOr.out.1 k e).1;omega
      have hkeep:∀ k,k<wr.heap.size→(Value.slice va j vc).ownBlock≠some k→w12.heap[k]?=wr.heap[k]?:=fun k hk hne=>(hgrow12.block k (by rw [size_al];have:=HBB11.out.size;omega) (fun e=>hne e.symm)).trans ((bel_alloc HBB11.out (.cells #[.slice b1 p1 k1,.slice b2 p2 k2,.bool mt,.int .i64 mh] 55)).block k hk)
      have hs12:wr.heap.size≤w12.heap.size:=by have h1:=hgrow12.size;rw [size_al] at h1;have:=HBB11.out.size;omega
      have hb12:Below M0 wr w12:=⟨hgrow12.os.trans HBB11.out.os,hgrow12.tape.trans HBB11.out.tape,hgrow12.output.trans HBB11.out.output,by omega,fun k hk=>hkeep k (by omega) (hlow k hk)⟩
      have HM12:Hid (BlkAt w12 b 25 #[.slice ra rs.length rc,.slice va j vc]):=(hkeep b (by omega) (hlow b (by omega))).trans HMr.out
      have HR12:Hid (BlkAt w12 (w.heap.size+1) 25 #[.slice none 0 0,.slice none 0 0]):=(hkeep _ (by omega) (hlow _ (by omega))).trans HRr.out
      have hp12:PI (b+1) w12 o B V x' s3:=by
       obtain ⟨Q,w0,q1,q2,q3,q4,q5,q6,q7⟩:=HPr.out
       have hbl:=q7.bel
       have hol:=q7.olt
       exact ⟨Q,w0,q1,q2,q3,q4,by omega,by omega,q7.later ⟨hb12.os.trans hbl.os,hb12.tape.trans hbl.tape,hb12.output.trans hbl.output,Nat.le_trans hbl.size hs12,fun k hk=>(hkeep k (by have:=hbl.size;omega) (hlow k (by omega))).trans (hbl.block k hk)⟩ (hkeep o (by omega) (hlow o (by omega))) (hkeep B (by omega) (hlow B (by omega)))⟩
      have hsn:MapsOwn w12 M0 (.slice (some ⟨g9,0,none⟩) (j+1) p9) (gs++[⟨⟨mp,mr,mt,mh⟩,b1,k1,b2,k2⟩]):=by
       refine MapsOwn.snoc (g:=⟨⟨mp,mr,mt,mh⟩,b1,k1,b2,k2⟩) HOr.out (bel_alloc HBB11.out (.cells #[.slice b1 p1 k1,.slice b2 p2 k2,.bool mt,.int .i64 mh] 55)) hMr ?_ hgrow12 hat12 ?_ ?_
       ·rw [HGL.out]
        show w12.ownsRow _ _ _ _ _ (gxCells gs++[.slice b1 mp.length k1,.slice b2 mr.length k2,.bool mt,.int .i64 mh])
        rw [HP1.out,HP2.out]
        exact hown12
       ·show StrsAt _ (.slice b1 mp.length k1) mp
        rw [HP1.out]
        exact strs_bel HSP.out (bel_alloc (Below.refl _ w11) _)
       ·show StrsAt _ (.slice b2 mr.length k2) mr
        rw [HP2.out]
        exact strs_bel HSR.out (bel_alloc (Below.refl _ w11) _)
      have HKE:Hid (∀ g ∈ gs++[(⟨⟨mp,mr,mt,mh⟩,b1,k1,b2,k2⟩:GX)],g.x.repos.length≤g.c2∧0≤g.x.thr∧g.x.thr≤8):=fun g hg=>by
       rcases List.mem_append.1 hg with hg | hg
       ·exact HKr.out g hg
       ·rw [List.mem_singleton.1 hg]
        exact ⟨by show mr.length≤k2;rw [HP2.out];exact HCAP.out,HTH.out.1,HTH.out.2⟩
      have hu12:Up n5 w9 w12:=⟨Nat.le_trans HUr.out.1 hs12,fun k hk hl=>(hkeep k (by have:=HUr.out.1;omega) (hlow k (by have:=HM0.out;omega))).trans (HUr.out.2 k hk hl)⟩
      have hbe12:Below w.heap.size w w12:=⟨hb12.os.trans HBr.out.os,hb12.tape.trans HBr.out.tape,hb12.output.trans HBr.out.output,Nat.le_trans HBr.out.size hs12,fun k hk=>(hkeep k (by have:=HBr.out.size;omega) (hlow k (by omega))).trans (HBr.out.block k hk)⟩
      have HGE:Hid ((gs++[(⟨⟨mp,mr,mt,mh⟩,b1,k1,b2,k2⟩:GX)]).length=j+1):=by show _=_;rw [List.length_append,HGL.out];rfl
      have HQE:Hid ((gs++[(⟨⟨mp,mr,mt,mh⟩,b1,k1,b2,k2⟩:GX)]).map GX.x++(mapsV (namesR Y.1) (l.drop (j+1))).1=Z.1∧(mapsV (namesR Y.1) (l.drop (j+1))).2=Z.2):=by
       have h1:=HQr.out
       rw [HST2.out] at h1
       refine ⟨?_,h1.2⟩
       rw [List.map_append,List.append_assoc]
       exact h1.1
      obtain ⟨m0,m1,mf⟩:=b2c HM12.out
      have HPE:Hid (PI (b+1) (w12.setCell ⟨b,1,none⟩ (.slice (some ⟨g9,0,none⟩) (j+1) p9)) o B V x' s3):=hp12.low (by omega) _ _
      have HRE:Hid (BlkAt (w12.setCell ⟨b,1,none⟩ (.slice (some ⟨g9,0,none⟩) (j+1) p9)) (w.heap.size+1) 25 #[.slice none 0 0,.slice none 0 0]):=HR12.out.set_far (by omega) _ _
      have HME:Hid (BlkAt (w12.setCell ⟨b,1,none⟩ (.slice (some ⟨g9,0,none⟩) (j+1) p9)) b 25 #[.slice ra rs.length rc,.slice (some ⟨g9,0,none⟩) (j+1) p9]):=HM12.out.set 1 _
      have HOE:Hid (MapsOwn (w12.setCell ⟨b,1,none⟩ (.slice (some ⟨g9,0,none⟩) (j+1) p9)) M0 (.slice (some ⟨g9,0,none⟩) (j+1) p9) (gs++[⟨⟨mp,mr,mt,mh⟩,b1,k1,b2,k2⟩])):=hsn.up ((Up.of_below (Below.refl _ _)).set (by omega) _ _)
      have HUE:Hid (Up n5 w9 (w12.setCell ⟨b,1,none⟩ (.slice (some ⟨g9,0,none⟩) (j+1) p9))):=hu12.set hbz _ _
      have HBE:Hid (Below w.heap.size w (w12.setCell ⟨b,1,none⟩ (.slice (some ⟨g9,0,none⟩) (j+1) p9))):=bel_set hbe12 (p:=⟨b,1,none⟩) (by show w.heap.size≤b;omega) _
      have hME:M0≤(w12.setCell ⟨b,1,none⟩ (.slice (some ⟨g9,0,none⟩) (j+1) p9)).heap.size:=by rw [setCell_size];omega
      clear hown12 hgrow12 hat12 hlow hkeep hb12 HM12 HR12 hp12 hsn hu12 hbe12 HPr HRr HMr HOr HKr HUr HBr HQr HT11 HM11 HSP HSR HNC HONE HMX HOR t0 t1 t2 t3 tf
      go_wp2_with fail
      exact ⟨⟨j+1,_,some ⟨g9,0,none⟩,p9,by omega,by go_num,hME,HGE,HPE,HRE,HME,HOE,HKE,HUE,HBE,HQE⟩,by simp [intOf];omega⟩
     ·have hst:=HST.out
      rw [hbad] at hst
      simp only at hst
      have hq:=HQr.out
      rw [hst] at hq
      have hz1:gs.map GX.x=Z.1:=by rw [← hq.1];simp
      have hz2:er=Z.2:=hq.2
      have heb:(er != 0)=true:=bne_iff_ne.2 hne
      obtain ⟨w11,hw11⟩:∃ z,z=w10.alloc (.cells #[.slice none 0 0,.slice none 0 0,.bool false,.int .i64 0] 55):=⟨_,rfl⟩
      have hb11:Below w10.heap.size w10 w11:=by rw [hw11];exact bel_alloc (Below.refl _ _) _
      have hbb:=below_more (below_more HBA.out hb10) hb11
      have HFL:=Lib.hid ((HPr.out.keep hbb).fail er)
      rw [hz2,HS4.out,← hz2] at HFL
      have HM11:=Lib.hid (HMr.out.keep hbb)
      have HR11:=Lib.hid (HRr.out.keep hbb)
      have HO11:=Lib.hid (HOr.out.keep hbb)
      have HU11:=Lib.hid (HUr.out.trans (Up.of_below hbb))
      have HB11:=Lib.hid (below_more HBr.out hbb)
      have HZ1':=Lib.hid hz1
      have HW11:=Lib.hid hw11
      clear hst hq hz1 hz2 hw11 hb11 hbb hb10 hbad hne HPr HRr HMr HOr HUr HBr HQr
      go_wp2_with fail
      rw [← HW11.out]
      refine HFL.out.mono ?_
      rintro e wt ⟨rfl,hpt,hsept⟩
      have HRT:=Lib.hid (blk_sep HR11.out hsept (by omega) (by omega))
      have HMT:=Lib.hid (blk_sep HM11.out hsept (by omega) (by omega))
      have HBT:Hid (Below w.heap.size w wt):=hsept.below HB11.out (by omega) (fun k hk=>by have:=Option.some.inj hk;omega)
      have HOT:=Lib.hid (HO11.out.up ((Up.of_sep hsept (show o<M0 by omega) (by omega))))
      have HROT:=Lib.hid ((HRO9.out.up HU11.out).up (Up.of_sep hsept ho5 hB5))
      have HDN:=Lib.hid (hpt.done HF4.out)
      clear HFL HR11 HM11 HB11 HO11 HU11 hpt hsept
      go_wp2_with fail
      refine HDN.out.mono ?_
      rintro e w15 ⟨rfl,hb15⟩
      obtain ⟨r0,r1,rf⟩:=b2c (HRT.out.keep hb15)
      obtain ⟨m0,m1,mf⟩:=b2c (HMT.out.keep hb15)
      have HB15:=Lib.hid (below_more HBT.out hb15)
      have HO15:=Lib.hid (HOT.out.keep hb15)
      have HRO15:=Lib.hid (HROT.out.keep hb15)
      obtain ⟨dq,hdq⟩:∃ q,doneQ V s4=q:=⟨_,rfl⟩
      have hr:=HR.out
      rw [hdq] at hr ⊢
      clear HDN HRT HMT HBT HOT HROT hb15 hdq
      by_cases hd:dq=0
      ·subst hd
       rw [if_neg (by simp)] at hr
       have HRR:=Lib.hid hr
       clear hr
       go_wp2_with fail
       rw [← HRR.out]
       refine bodyPost_ret (v:=.tuple #[.agg #[.slice ra rs.length rc,.slice va j vc],.int .i64 0]) (by simp [results,Tryz.results11,go_sem,r0,r1]) rfl ⟨bel_set (bel_set HB15.out (Nat.le_succ _) _) (Nat.le_succ _) _,ra,rc,va,vc,rs,gs,M0,by rw [HGL.out],by omega,?_,HRL.out,?_,HRS.out,HZ1'.out,HKr.out⟩
       ·exact (HRO15.out.up (((Up.of_below (Below.refl _ _)).set (show w.heap.size+1<n5 by omega) _ _).set (show w.heap.size+1<n5 by omega) _ _)).lows (by omega)
       ·rw [HGL.out]
        exact HO15.out.up (((Up.of_below (Below.refl _ _)).set (show w.heap.size+1<M0 by omega) _ _).set (show w.heap.size+1<M0 by omega) _ _)
      ·rw [if_pos hd] at hr
       have hdb:(dq != 0)=true:=bne_iff_ne.2 hd
       have HD:=Lib.hid hd
       have HRR:=Lib.hid hr
       clear hr hd
       go_wp2_with fail
       rw [← HRR.out]
       exact bodyPost_ret (v:=.tuple #[.agg #[.slice none 0 0,.slice none 0 0],.int .i64 dq]) (by simp [results,Tryz.results11,go_sem,r0,r1]) rfl ⟨bel_set (bel_set HB15.out (Nat.le_succ _) _) (Nat.le_succ _) _,rfl,HD.out⟩
    ·have hi1:¬ (j:Int)<(n:Int):=by omega
     obtain rfl:j=n:=by omega
     have hq:=HQr.out
     rw [List.drop_of_length_le (by rw [HN.out];exact Nat.le_refl _)] at hq
     have hnil:∀ R,mapsV R []=([],0):=fun R=>by unfold mapsV;rfl
     rw [hnil,List.append_nil] at hq
     have HZ1':Hid (gs.map GX.x=Z.1):=hq.1
     have hz2:Z.2=0:=hq.2.symm
     clear hnil
     have hs4:s3=s4:=by
      rw [← HS4.out,hz2]
      cases s3 with
      | bad e=>rfl
      | ok A=>rw [failQ,if_pos rfl]
     have HDN:=Lib.hid ((hs4 ▸ HPr.out:PI (b+1) wr o B V x' s4).done HF4.out)
     obtain ⟨wt,rfl⟩:∃ y,y=wr:=⟨wr,rfl⟩
     have HRT:=HRr
     have HMT:=HMr
     have HBT:=HBr
     have HOT:=HOr
     have HROT:=Lib.hid (HRO9.out.up HUr.out)
     clear hq hz2 hs4 HPr HRr HMr HOr HUr HBr HQr
     go_wp2_with fail
     refine HDN.out.mono ?_
     rintro e w15 ⟨rfl,hb15⟩
     obtain ⟨r0,r1,rf⟩:=b2c (HRT.out.keep hb15)
     obtain ⟨m0,m1,mf⟩:=b2c (HMT.out.keep hb15)
     have HB15:=Lib.hid (below_more HBT.out hb15)
     have HO15:=Lib.hid (HOT.out.keep hb15)
     have HRO15:=Lib.hid (HROT.out.keep hb15)
     obtain ⟨dq,hdq⟩:∃ q,doneQ V s4=q:=⟨_,rfl⟩
     have hr:=HR.out
     rw [hdq] at hr ⊢
     clear HDN HRT HMT HBT HOT HROT hb15 hdq
     by_cases hd:dq=0
     ·subst hd
      rw [if_neg (by simp)] at hr
      have HRR:=Lib.hid hr
      clear hr
      go_wp2_with fail
      rw [← HRR.out]
      refine bodyPost_ret (v:=.tuple #[.agg #[.slice ra rs.length rc,.slice va j vc],.int .i64 0]) (by simp [results,Tryz.results11,go_sem,r0,r1]) rfl ⟨bel_set (bel_set HB15.out (Nat.le_succ _) _) (Nat.le_succ _) _,ra,rc,va,vc,rs,gs,M0,by rw [HGL.out],by omega,?_,HRL.out,?_,HRS.out,HZ1'.out,HKr.out⟩
      ·exact (HRO15.out.up (((Up.of_below (Below.refl _ _)).set (show w.heap.size+1<n5 by omega) _ _).set (show w.heap.size+1<n5 by omega) _ _)).lows (by omega)
      ·rw [HGL.out]
       exact HO15.out.up (((Up.of_below (Below.refl _ _)).set (show w.heap.size+1<M0 by omega) _ _).set (show w.heap.size+1<M0 by omega) _ _)
     ·rw [if_pos hd] at hr
      have hdb:(dq != 0)=true:=bne_iff_ne.2 hd
      have HD:=Lib.hid hd
      have HRR:=Lib.hid hr
      clear hr hd
      go_wp2_with fail
      rw [← HRR.out]
      exact bodyPost_ret (v:=.tuple #[.agg #[.slice none 0 0,.slice none 0 0],.int .i64 dq]) (by simp [results,Tryz.results11,go_sem,r0,r1]) rfl ⟨bel_set (bel_set HB15.out (Nat.le_succ _) _) (Nat.le_succ _) _,rfl,HD.out⟩
end

section
set_option maxRecDepth 100000
open Go.RowKit Go.WideMaps Go.Maps Go.Shelf
def objJ (xs:List XM):JV:=.mk 5 0 ⟨#[]⟩ (xs.map XM.name) (xs.map XM.V)
def ItemsBy (w:World) (B:Nat) (v vN:Value) (ps:List XI):Prop:=w.ownsRow B 29 5 v ps.length (xiCells ps)∧∀ x ∈ ps,ValAt (hidden (fun k=>offB B v.ownBlock k || decide (vN.ownBlock=some k)) w) x.2 x.1.val
theorem ItemsBy.nil (w:World) (B:Nat) (vN:Value):ItemsBy w B (.slice none 0 0) vN []:=⟨World.ownsRow_nil _ _ _ _,by simp⟩
theorem by_no {B k:Nat} {v vN:Value}:(offB B v.ownBlock k || decide (vN.ownBlock=some k))=false↔B≤k∧v.ownBlock≠some k∧vN.ownBlock≠some k:=by
 rw [Bool.or_eq_false_iff,offB_no,decide_eq_false_iff_not]
 exact ⟨fun h=>⟨h.1.1,h.1.2,h.2⟩,fun h=>⟨⟨h.1,h.2.1⟩,h.2.2⟩⟩
theorem ItemsBy.other {w w':World} {B:Nat} {v vN vN':Value} {ps:List XI} (h:ItemsBy w B v vN ps) (hn:vN'.ownBlock=vN.ownBlock∨∃ g,vN'.ownBlock=some g∧w.heap.size≤g) (hne:v.ownBlock=none∨v.ownBlock≠vN.ownBlock) (hk:∀ k,k<w.heap.size→B≤k→vN.ownBlock≠some k→w'.heap[k]?=w.heap[k]?):ItemsBy w' B v vN' ps:=by
 refine ⟨row_same h.1 fun k hk2=>?_,fun x hx=>(h.2 x hx).carry fun k hk2 hP=>?_⟩
 ·have hl:=World.ownsRow.lt h.1 k hk2
  exact hk k hl.2 hl.1 (fun e=>by rcases hne with e2 | e2;(rw [e2] at hk2;cases hk2);exact e2 (hk2.trans e.symm))
 ·obtain ⟨p1,p2,p3⟩:=by_no.1 hP
  refine ⟨by_no.2 ⟨p1,p2,?_⟩,hk k hk2 p1 p3⟩
  rcases hn with e | ⟨g,e,hg⟩
  ·rw [e];exact p3
  ·rw [e];intro e2;have:=Option.some.inj e2;omega
theorem ItemsBy.snoc {wr w1 w5:World} {B:Nat} {vI v' vN:Value} {xs:List XI} {x:VC} {V:JV} (h:ItemsBy wr B vI vN xs) (hx:NewV wr.heap.size w1 V x.val) (hB:B≤wr.heap.size) (hsz:wr.heap.size≤w1.heap.size) (hN:∀ k,vN.ownBlock=some k→k<wr.heap.size)
 (hv:v'.ownBlock=vI.ownBlock∨∃ g,v'.ownBlock=some g∧w1.heap.size≤g) (hown:w5.ownsRow B 29 5 v' (xs.length+1) (xiCells xs++x.cells))
 (hk:∀ k,k<w1.heap.size→B≤k→vI.ownBlock≠some k→w5.heap[k]?=w1.heap[k]?) (hk0:∀ k,k<wr.heap.size→B≤k→w1.heap[k]?=wr.heap[k]?):ItemsBy w5 B v' vN (xs++[(x,V)]):=by
 have hne:∀ k,k<w1.heap.size→vI.ownBlock≠some k→v'.ownBlock≠some k:=fun k hk1 hk2=>by
  rcases hv with e | ⟨g,e,hg⟩
  ·rw [e];exact hk2
  ·rw [e];intro e2;have:=Option.some.inj e2;omega
 refine ⟨by rw [List.length_append,xiCells_snoc];exact hown,fun y hy=>?_⟩
 rcases List.mem_append.1 hy with hy | hy
 ·refine (h.2 y hy).carry fun k hkl hP=>?_
  obtain ⟨p1,p2,p3⟩:=by_no.1 hP
  exact ⟨by_no.2 ⟨p1,hne k (by omega) p2,p3⟩,(hk k (by omega) p1 p2).trans (hk0 k hkl p1)⟩
 ·rw [List.mem_singleton.1 hy]
  refine ValAt.carry hx fun k hkl hP=>?_
  have p1:=offB_none.1 hP
  have p2:vI.ownBlock≠some k:=fun e=>by have:=(World.ownsRow.lt h.1 k e).2;omega
  exact ⟨by_no.2 ⟨by omega,hne k hkl p2,fun e=>by have:=hN k e;omega⟩,hk k hkl (by omega) p2⟩
theorem ItemsBy.up {w w':World} {B:Nat} {v vN:Value} {ps:List XI} (h:ItemsBy w B v vN ps) (hu:Up B w w'):ItemsBy w' B v vN ps :=
 ⟨row_same h.1 fun k hk=>hu.2 k (World.ownsRow.lt h.1 k hk).1 (World.ownsRow.lt h.1 k hk).2,fun x hx=>(h.2 x hx).carry fun k hk hP=>⟨hP,hu.2 k (by_no.1 hP).1 hk⟩⟩
theorem ItemsBy.own {w:World} {B:Nat} {v vN:Value} {ps:List XI} (h:ItemsBy w B v vN ps):ItemsOwn w B v ps :=
 ⟨h.1,fun x hx=>(h.2 x hx).carry fun _k _ hP=>⟨offB_no.2 ⟨(by_no.1 hP).1,(by_no.1 hP).2.1⟩,rfl⟩⟩
def MemsC (w:World) (v:Value) (xs:List XM):Prop:=∃ b o c,v=.slice (some ⟨b,o,none⟩) xs.length c∧(∀ i x,xs[i]?=some x→∀ j u,x.cells[j]?=some u→w.cell? ⟨b,o+i*6+j,none⟩=some u)∧∀ x ∈ xs,x.name.size≤maxLen
theorem MemsC.keep {w w':World} {v:Value} {xs:List XM} (h:MemsC w v xs) (hb:Below w.heap.size w w'):MemsC w' v xs:=by
 obtain ⟨b,o,c,e,h1,h2⟩:=h
 exact ⟨b,o,c,e,fun i x hx j u hu=>cell_keep hb (h1 i x hx j u hu),h2⟩
def CopyE (w:World) (E:JV→Prop) (x:VC):Prop:=∀ W,Below w.heap.size w W→Calls Tryz.prog 35 #[x.val] W fun e w'=>∃ (z:VC) (U:JV),e=.returned z.val∧E U∧Below W.heap.size W w'∧NewV W.heap.size w' U z.val
theorem CopyE.use {w W:World} {E:JV→Prop} {x:VC} (h:CopyE w E x) (hb:Below w.heap.size w W):Calls Tryz.prog 35 #[x.val] W fun e w'=>∃ (z:VC) (U:JV),e=.returned z.val∧E U∧Below W.heap.size W w'∧NewV W.heap.size w' U z.val:=h W hb
def OutE (E:XM→JV→Prop) (ys:List XM) (us:List JV):Prop:=us.length=ys.length∧∀ (i:Nat) (y:XM),ys[i]?=some y→∃ u,us[i]?=some u∧E y u
theorem OutE.snoc {E:XM→JV→Prop} {ys:List XM} {us:List JV} {y:XM} {u:JV} (h:OutE E ys us) (he:E y u):OutE E (ys++[y]) (us++[u]):=by
 obtain ⟨h1,h2⟩:=h
 refine ⟨by rw [List.length_append,List.length_append,h1];rfl,fun i z hz=>?_⟩
 by_cases hi:i<ys.length
 ·rw [List.getElem?_append_left hi] at hz
  obtain ⟨v,hv,hE⟩:=h2 i z hz
  exact ⟨v,by rw [List.getElem?_append_left (by omega)];exact hv,hE⟩
 ·rw [List.getElem?_append_right (by omega)] at hz
  have hi0:i - ys.length=0:=by
   have:=(List.getElem?_eq_some_iff.1 hz).1
   simp at this
   omega
  rw [hi0] at hz
  simp only [List.getElem?_cons_zero,Option.some.injEq] at hz
  subst hz
  exact ⟨u,by rw [List.getElem?_append_right (by omega),h1,hi0];rfl,he⟩
def ObjE (E:XM→JV→Prop) (xs:List XM) (w:World) (e:Ending) (w':World):Prop:=∃ ys:List XM,ys.Perm xs∧ys.Pairwise (fun a b=>¬ XLt b a)∧Below w.heap.size w w'∧((∃ (i:Nat) (y z:XM),ys[i]?=some z∧ys[i+1]?=some y∧z.name=y.name∧e=.returned (.tuple #[.agg #[.int .u8 0,.int .i64 0,.string ⟨#[]⟩,.slice none 0 0,.slice none 0 0],.int .i64 7])) ∨
 ∃ (x:VC) (us:List JV),OutE E ys us∧e=.returned (.tuple #[x.val,.int .i64 0])∧NewV w.heap.size w' (.mk 5 0 ⟨#[]⟩ (ys.map XM.name) us) x.val)
theorem cloneC_any (xs:List XM) (v:Value) (w:World) (h:MemsC w v xs) (hne:xs≠[]) (hl:xs.length≤1000000) :
 Calls Tryz.prog 31 #[v] w fun e w'=>∃ g c,e=.returned (.slice (some ⟨g,0,none⟩) xs.length c)∧Below w.heap.size w w'∧w'.ownsRow w.heap.size 41 6 (.slice (some ⟨g,0,none⟩) xs.length c) xs.length (xmCells xs):=by
 obtain ⟨b,o,cap,rfl,h1,-⟩:=h
 obtain ⟨n,hn⟩:∃ n,xs.length=n:=⟨_,rfl⟩
 rw [hn] at hl ⊢
 have hn0:0<n:=by rw [← hn];exact List.length_pos_iff.2 hne
 have hq:=Lib.run_eql_slice_nil w 37 41 (some ⟨b,o,none⟩) n cap 0 0 Tryz.underlying37
 obtain ⟨i0,hi,hz0,hz1,hz2⟩:=info_parts infoPM
 have HC:Hid (∀ j u,(xmCells xs)[j]?=some u→w.cell? ((⟨b,o,none⟩:Addr).add j)=some u):=fun j u hj=>by
  obtain ⟨x,hx,hu⟩:=xmCells_at hj
  have hadd:(⟨b,o,none⟩:Addr).add j=⟨b,o+j,none⟩:=by unfold Addr.add;split <;> simp_all
  rw [hadd]
  have:=h1 _ x hx _ u hu
  rwa [show o+j / 6*6+j % 6=o+j by have:=Nat.div_add_mod j 6;omega] at this
 have HN:=Lib.hid hn
 clear h1 hn hne
 go_enter Tryz.func31,Tryz.ntmps31
 go_wp2_with (at_builtin;refine wpList_append_own _ rfl _ _ 37 rfl w.heap.size 41 i0 zeroM 6 96 Tryz.underlying37 hi hz0 hz1 hz2 rfl (by decide) _ _ _ rfl (World.ownsRow_made w #[] 0 (Nat.le_refl _) (Nat.zero_le _) rfl) ⟨b,o,none⟩ n cap (xmCells xs) rfl ?qc1 ?qc2 ?qc3 ?qc4 ?qc5 ?qc6 ?_)
 case qc1=>rw [xmCells_len,HN.out]
 case qc2 =>
  intro j u hj
  exact Lib.cell?_alloc_some _ (HC.out j u hj)
 case qc3 =>
  intro u hu
  obtain ⟨x,_,hx⟩:=List.mem_flatMap.1 hu
  exact XM.cells_one x u hx
 case qc4=>unfold maxLen;omega
 case qc5=>omega
 case qc6=>simp
 intro v' w1 hown hgrow hnil
 have hform:∃ g c,v'=.slice (some ⟨g,0,none⟩) n c:=by
  rcases hown.2 with ⟨e,-⟩ | ⟨g,c,cur,e,-⟩
  ·exact absurd e hnil
  ·exact ⟨g,c,e⟩
 obtain ⟨g,c,rfl⟩:=hform
 have hB:Below w.heap.size w w1:=((Below.refl _ w).alloc (Nat.le_refl _) _).grown hgrow (by simp) (by intro k hk;simp [Value.ownBlock] at hk;omega)
 have HB:=Lib.hid hB
 have HO:Hid (w1.ownsRow w.heap.size 41 6 (.slice (some ⟨g,0,none⟩) n c) n (xmCells xs)):=by show World.ownsRow _ _ _ _ _ _ _;simpa using hown
 clear hown hgrow hnil hB
 go_wp2_with fail
 go_ret
 exact ⟨g,c,rfl,HB.out,HO.out⟩
theorem sortC_any (xs:List XM) (g cp B:Nat) (w:World) (h:w.ownsRow B 41 6 (.slice (some ⟨g,0,none⟩) xs.length cp) xs.length (xmCells xs)) (_hne:xs≠[]) (hl:xs.length≤1000000) :
 Calls Tryz.prog 32 #[.slice (some ⟨g,0,none⟩) xs.length cp,.func (.func 33) #[] #[]] w fun e w'=>∃ ys:List XM,ys.Perm xs∧ys.Pairwise (fun a b=>¬ XLt b a)∧e=.returned (.tuple #[])∧w.grownBy w' (some g)∧∀ i x,ys[i]?=some x→∀ j u,x.cells[j]?=some u→w'.cell? ⟨g,i*6+j,none⟩=some u:=by
 have hg:=(World.ownsRow.lt h g rfl).2
 have hH:=holdsP h
 have eg:∀ args w,(callFunc 33 args).run Tryz.prog w=.ok (.enter 33 args) w:=enters_of Tryz.func33 (by kernel_rfl) rfl
 have hcon:=AnyQ.slices_SortFunc Tryz.sortPick 6 isAggP sizeOfP XM.cells XM.cells_len XM.cells_one cfM swoM 33 #[] g 0 cp xs.toArray _ eg (cmpLaysP g 0 xs.toArray.size _) hH hg (by show xs.length<_;omega)
 change Calls Tryz.prog 32 _ _ _ at hcon
 refine hcon.mono ?_
 rintro e' w1 ⟨rfl,d',n,os,hp,hso,hw1⟩
 have hsz:d'.size=xs.toArray.size:=hp.1
 have e1:d'.extract 0 xs.toArray.size=d':=by rw [← hsz];simp
 have e2:xs.toArray.extract 0 xs.toArray.size=xs.toArray:=by simp
 have h3:=hp.2.2
 rw [e1,e2] at h3
 have h4:d'.toList.Perm xs:=h3
 have hd:d'.toList.Pairwise (fun a b=>¬ XLt b a):=by
  rw [List.pairwise_iff_getElem]
  intro i j hi hj hij
  have:=hso i j (Nat.zero_le _) hij (by rw [Array.length_toList] at hj;rw [← hsz];exact hj)
  rw [ltM] at this
  have gi:d'[i]! = d'.toList[i]:=by rw [getElem!_pos d' i (by simpa using hi)];simp
  have gj:d'[j]! = d'.toList[j]:=by rw [getElem!_pos d' j (by simpa using hj)];simp
  rw [gi,gj] at this
  unfold XLt
  rw [this]
  decide
 refine ⟨d'.toList,h4,hd,rfl,by rw [hw1];exact grown_sort _ _ _ _ _,fun i y hy j c hj=>?_⟩
 have hH3:=holdsK_sortWorldK XM.cells 6 _ g 0 n xs.toArray d' os hg hH hsz
 rw [← hw1] at hH3
 have hi2:i<d'.size:=by have:=(List.getElem?_eq_some_iff.1 hy).1;simpa using this
 have hj6:j<6:=by have:=(List.getElem?_eq_some_iff.1 hj).1;rwa [XM.cells_len] at this
 have h5:=(hH3.cell hi2 hj6).1
 have e3:d'[i]! = y:=by
  have:d'[i]?=some y:=by rw [← Array.getElem?_toList];exact hy
  rw [getElem!_def,this]
 rw [Nat.zero_add,e3] at h5
 rw [h5,getElem!_def,hj]
theorem objectOf_gen (E:XM→JV→Prop) (xs:List XM) (v:Value) (w:World) (h:MemsC w v xs) (hcp:∀ x ∈ xs,CopyE w (E x) x.c) (hne:xs≠[]) (hl:xs.length≤1000) :
 Calls Tryz.prog 10 #[v] w (ObjE E xs w):=by
 obtain ⟨w1,hw1⟩:∃ y,y=w.alloc (.cells #[.int .u8 0,.int .i64 0,.string ⟨#[]⟩,.slice none 0 0,.slice none 0 0] 29):=⟨_,rfl⟩
 have hb1:Below w.heap.size w w1:=by rw [hw1];exact bel_alloc (Below.refl _ _) _
 have HR1:Hid (BlkAt w1 w.heap.size 29 #[.int .u8 0,.int .i64 0,.string ⟨#[]⟩,.slice none 0 0,.slice none 0 0]):=by rw [hw1];exact blkAt_new w _ _
 have HCL:=Lib.hid (cloneC_any xs v w1 (h.keep hb1) hne (by omega))
 have HSO:=Lib.hid (fun g cp (W:World) B hh=>sortC_any xs g cp B W hh hne (by omega))
 have hs1:w1.heap.size=w.heap.size+1:=by rw [hw1,size_al]
 have HB1:=Lib.hid hb1
 have HH:=Lib.hid h
 have HCP:=Lib.hid hcp
 have HW1:=Lib.hid hw1
 obtain ⟨i0,hi,hz0,hz1,hz2⟩:=info_parts infoVal
 have HI:=Lib.hid hi
 have HZ0:=Lib.hid hz0
 have HZ1:=Lib.hid hz1
 have HZ2:=Lib.hid hz2
 obtain ⟨j0,hj,hy0,hy1,hy2⟩:=info_parts infoStr
 have HJ:=Lib.hid hj
 have HY0:=Lib.hid hy0
 have HY1:=Lib.hid hy1
 have HY2:=Lib.hid hy2
 obtain ⟨n,hn⟩:∃ n,xs.length=n:=⟨_,rfl⟩
 rw [hn] at hl HCL HSO
 clear hi hz0 hz1 hz2 hj hy0 hy1 hy2 h hne hcp hb1 hw1
 go_enter Tryz.func10,Tryz.ntmps10
 go_wp2_with fail
 rw [← HW1.out]
 refine HCL.out.mono ?_
 rintro e w2 ⟨g,c,rfl,hb2,hown2⟩
 have hg:=World.ownsRow.lt hown2 g rfl
 have HR2:=Lib.hid (HR1.out.keep hb2)
 have HB2:=Lib.hid (below_more HB1.out hb2)
 have HS:=Lib.hid (HSO.out g c w2 w1.heap.size hown2)
 clear hb2 hown2 HCL HSO HR1 HW1
 go_wp2_with fail
 refine HS.out.mono ?_
 rintro e w3 ⟨ys,hperm,hsort,rfl,hgr3,hc3⟩
 have HN:Hid (ys.length=n):=hperm.length_eq.trans hn
 have HPERM:=Lib.hid hperm
 have HSORT:=Lib.hid hsort
 clear hperm hsort hn
 have hs3:=hgr3.size
 have hr3:BlkAt w3 w.heap.size 29 #[.int .u8 0,.int .i64 0,.string ⟨#[]⟩,.slice none 0 0,.slice none 0 0]:=(hgr3.block w.heap.size (by omega) (fun e=>by have e2:w.heap.size=g:=Option.some.inj e;omega)).trans HR2.out
 have hb3:Below w.heap.size w w3:=HB2.out.grown hgr3 HB2.out.size (fun k hk=>by have e2:g=k:=Option.some.inj hk;omega)
 obtain ⟨w4,hw4⟩:∃ y,y=w3.alloc (.cells #[.int .u8 5,.int .i64 0,.string ⟨#[]⟩,.slice none 0 0,.slice none 0 0] 29):=⟨_,rfl⟩
 obtain ⟨vb,hvb⟩:∃ y,w3.heap.size=y:=⟨_,rfl⟩
 have hb34:Below w3.heap.size w3 w4:=by rw [hw4];exact bel_alloc (Below.refl _ _) _
 have HR4:=Lib.hid (hr3.keep hb34)
 have HV4:Hid (BlkAt w4 vb 29 #[.int .u8 5,.int .i64 0,.string ⟨#[]⟩,.slice none 0 0,.slice none 0 0]):=by rw [hw4,← hvb];exact blkAt_new w3 _ _
 have HB4:=Lib.hid (below_more hb3 hb34)
 have HC4:Hid (∀ i x,ys[i]?=some x→∀ j u,x.cells[j]?=some u→w4.cell? ⟨g,i*6+j,none⟩=some u):=fun i x hx j u hu=>cell_keep hb34 (hc3 i x hx j u hu)
 have hs4:w4.heap.size=vb+1:=by rw [hw4,size_al,hvb]
 have hgv:g<vb:=by omega
 have hwg:w.heap.size<g:=by omega
 have HVB:=Lib.hid hvb
 have HW4:=Lib.hid hw4
 clear hgr3 hc3 hs3 hr3 hb3 hb34 hvb hw4 HS HR2 HB2 hg
 go_wp2_with fail
 rw [← HW4.out,HVB.out]
 go_loopw [15] (fun i wr=>∃ (j:Nat) (ps:List XI) (na:Option Addr) (nc:Nat) (ia:Option Addr) (ic:Nat),j≤n∧i=.int .i64 j∧ps.length=j∧Hid (OutE E (ys.take j) (ps.map Prod.snd))∧vb+1≤wr.heap.size∧Hid (Below w.heap.size w wr)∧Hid (∀ k,k<vb+1→k≠vb→wr.heap[k]?=w4.heap[k]?)∧Hid (BlkAt wr vb 29 #[.int .u8 5,.int .i64 0,.string ⟨#[]⟩,.slice na j nc,.slice ia j ic])∧Hid (wr.ownsRow (vb+1) 9 1 (.slice na j nc) j (rowN ys j))∧Hid (ItemsBy wr (vb+1) (.slice ia j ic) (.slice na j nc) ps)) (fun i _=>n - (intOf i).toNat)
 case atStart=>exact ⟨0,[],none,0,none,0,by omega,rfl,rfl,⟨rfl,fun i y h=>by simp at h⟩,by omega,HB4.out,fun _ _ _=>rfl,HV4.out,World.ownsRow_nil w4 (vb+1) 9 1,ItemsBy.nil _ _ _⟩
 case round =>
  obtain ⟨j,ps,na,nc,ia,ic,hj,rfl,hps,HPS,hsr,HBr,HKr,HVr,HNr,HIr⟩:=hrel
  by_cases hjn:j<n
  ·obtain ⟨y,hy⟩:∃ y,ys[j]?=some y:=⟨_,List.getElem?_eq_getElem (by rw [HN.out];exact hjn)⟩
   have hxt:=(xm_take ys j y hy).1
   have hcell:∀ (i:Nat) (z:XM),ys[i]?=some z→∀ k u,z.cells[k]?=some u→wr.cell? ⟨g,i*6+k,none⟩=some u:=fun i z hz k u hu=>by
    have h1:=HC4.out i z hz k u hu
    unfold World.cell? at h1 ⊢
    rw [HKr.out g (by omega) (by omega)]
    exact h1
   have hval:y ∈ xs:=HPERM.out.mem_iff.1 (List.mem_of_getElem? hy)
   have hi0:(0:Int)≤(j:Int):=by omega
   have hi1:(j:Int)<(n:Int):=by omega
   have hcase:(decide ((0:Int)<(j:Int))=false∧decide (0<j)=false)∨∃ (i:Nat) (z:XM),Hid (j=i+1)∧ys[i]?=some z∧decide ((0:Int)<(j:Int))=true∧decide (0<j)=true∧(j:Int) - 1=(i:Int)∧IntKind.i64.wrap (i:Int)=(i:Int)∧∃ bq:Bool,Hid (bq=true→z.name=y.name)∧(z.name.toList == y.name.toList)=bq:=by
    by_cases h0:j=0
    ·exact Or.inl ⟨decide_eq_false (by omega),decide_eq_false (by omega)⟩
    ·obtain ⟨i,rfl⟩:∃ i,j=i+1:=⟨j - 1,by omega⟩
     obtain ⟨z,hz⟩:∃ z,ys[i]?=some z:=⟨_,List.getElem?_eq_getElem (by rw [HN.out];omega)⟩
     refine Or.inr ⟨i,z,rfl,hz,decide_eq_true (by omega),decide_eq_true (by omega),by omega,IntWalk.i64_in (i:Int) (by omega),_,fun hq=>by first | exact toList_iff.1 (beq_iff_eq.1 hq) | exact (toList_iff.1 (beq_iff_eq.1 hq)).symm,rfl⟩
   have hcc:=hcell j y hy
   have HY:=Lib.hid hy
   have HXT:=Lib.hid hxt
   have HVAL:=Lib.hid hval
   obtain ⟨nm,⟨xk,xn,xt,xa,xl,xc,xb,xm,xe⟩,V⟩:=y
   have c0:wr.cell? ⟨g,j*6,none⟩=some (.string nm):=hcc 0 _ rfl
   have c1:wr.cell? ⟨g,j*6+1,none⟩=some (.int .u8 xk):=hcc 1 _ rfl
   have c2:wr.cell? ⟨g,j*6+2,none⟩=some (.int .i64 xn):=hcc 2 _ rfl
   have c3:wr.cell? ⟨g,j*6+3,none⟩=some (.string xt):=hcc 3 _ rfl
   have c4:wr.cell? ⟨g,j*6+4,none⟩=some (.slice xa xl xc):=hcc 4 _ rfl
   have c5:wr.cell? ⟨g,j*6+5,none⟩=some (.slice xb xm xe):=hcc 5 _ rfl
   obtain ⟨w5,hw5⟩:∃ y,y=wr.alloc (.cells #[.string nm,.int .u8 xk,.int .i64 xn,.string xt,.slice xa xl xc,.slice xb xm xe] 41):=⟨_,rfl⟩
   have hb5:Below wr.heap.size wr w5:=by rw [hw5];exact bel_alloc (Below.refl _ _) _
   have HM5:Hid (BlkAt w5 wr.heap.size 41 #[.string nm,.int .u8 xk,.int .i64 xn,.string xt,.slice xa xl xc,.slice xb xm xe]):=by rw [hw5];exact blkAt_new wr _ _
   have HV5:=Lib.hid (HVr.out.keep hb5)
   have HN5:=Lib.hid (ownsRow_keep HNr.out hb5)
   have HI5:=Lib.hid (HIr.out.up (Up.of_below hb5))
   have HB5:=Lib.hid (below_more HBr.out hb5)
   have HK5:Hid (∀ k,k<vb+1→k≠vb→w5.heap[k]?=w4.heap[k]?):=fun k h1 h2=>(hb5.block k (by omega)).trans (HKr.out k h1 h2)
   have hs5:w5.heap.size=wr.heap.size+1:=by rw [hw5,size_al]
   obtain ⟨tb,htb⟩:∃ t,wr.heap.size=t:=⟨_,rfl⟩
   rw [htb] at HM5 hs5 hsr
   have HTB:=Lib.hid htb
   have HW5:=Lib.hid hw5
   have hnl:∀ k,(Value.slice na j nc).ownBlock=some k→vb+1≤k∧k<tb:=fun k hk=>by have:=World.ownsRow.lt HNr.out k hk;omega
   have hil:∀ k,(Value.slice ia j ic).ownBlock=some k→vb+1≤k∧k<tb:=fun k hk=>by have:=World.ownsRow.lt HIr.out.1 k hk;omega
   have HNL:=Lib.hid hnl
   have HIL:=Lib.hid hil
   clear hy hxt hcc hval hw5 htb HBr HVr HNr HIr HKr hnl hil
   obtain ⟨d0,d1,d2,d3,d4,d5,df⟩:=blk6 HM5.out
   have e0:w5.cell? ⟨tb,0,none⟩=some (.string nm):=d0
   rcases hcase with ⟨gk,gk'⟩ | ⟨i,z,HJI,hz,gk,gk',hji,hwi,bq,HQ,hq⟩
   ·clear hcell hb5
    go_wp2_with fail
    rw [← HW5.out,HTB.out]
    go_quiet (fail)
    obtain ⟨w6,hw6⟩:∃ y,y=w5.drewN nq:=⟨_,rfl⟩
    rw [← hw6]
    have hb6:Below w5.heap.size w5 w6:=by rw [hw6];exact below_drewN (Below.refl _ _) nq
    have hs6:w6.heap.size=tb+1:=by rw [hw6];exact hs5
    have HM6:=Lib.hid (HM5.out.keep hb6)
    have HV6:=Lib.hid (HV5.out.keep hb6)
    have HN6:=Lib.hid (ownsRow_keep HN5.out hb6)
    have HI6:=Lib.hid (HI5.out.up (Up.of_below hb6))
    have HB6:=Lib.hid (below_more HB5.out hb6)
    have HK6:Hid (∀ k,k<vb+1→k≠vb→w6.heap[k]?=w4.heap[k]?):=fun k h1 h2=>(hb6.block k (by omega)).trans (HK5.out k h1 h2)
    clear hw6 hb6 HM5 HV5 HN5 HI5 HB5 HK5 d0 d1 d2 d3 d4 d5 df e0 c0 c1 c2 c3 c4 c5 HW5 HTB
    obtain ⟨m0,m1,m2,m3,m4,m5,mf⟩:=blk6 HM6.out
    have e0:w6.cell? ⟨tb,0,none⟩=some (.string nm):=m0
    obtain ⟨v0,v1,v2,v3,v4,vf⟩:=blk5 HV6.out
    have hnc:∀ i u,[Value.string nm][i]?=some u→(w6.alloc (.cells #[.string nm] 9)).cell? ((⟨w6.heap.size,0,none⟩:Addr).add i)=some u:=fun i u hj=>by
     have hadd:(⟨w6.heap.size,0,none⟩:Addr).add i=⟨w6.heap.size,i,none⟩:=by unfold Addr.add;split <;> simp_all
     rw [hadd,cell_al_eq _ _ _ _ _ rfl]
     simpa using hj
    have HNCC:=Lib.hid hnc
    have HMX:Hid (vb+1≤(w6.alloc (.cells #[.string nm] 9)).heap.size):=by show _≤_;rw [size_al];omega
    have HS6:=Lib.hid hs6
    clear hnc hs6
    go_wp2_with (at_builtin;refine wpList_append_own_at _ rfl _ _ 26 rfl (vb+1) 9 j0 (.string ⟨#[]⟩) 1 16 Tryz.underlying26 HJ.out HY0.out HY1.out HY2.out rfl (by decide) _ _ _ rfl (World.ownsRow.alloc HN6.out _) ⟨_,0,none⟩ 1 1 [.string nm] rfl rfl HNCC.out (by intro u hu;rw [List.mem_singleton.1 hu];rfl) (by unfold maxLen;omega) (by omega) HMX.out ?_)
    intro v' w7 hown7 hgrow7 _ hat7
    have hs6:=HS6.out
    have hat7:=hat7.imp_right (fun e:v'.ownBlock=some (w6.heap.size+1)=>(⟨_,e,by omega⟩:∃ g,v'.ownBlock=some g∧w6.heap.size≤g))
    obtain ⟨g7,p7,rfl,hg7,hg7'⟩:=World.ownsRow.form hown7 (by omega)
    have hkeep7:∀ k,k<w6.heap.size→(Value.slice na j nc).ownBlock≠some k→w7.heap[k]?=w6.heap[k]?:=fun k hk hne=>(hgrow7.block k (by rw [size_al];omega) (fun e=>hne e.symm)).trans ((bel_alloc (Below.refl _ w6) _).block k hk)
    have hnv:∀ k,k<vb+1→(Value.slice na j nc).ownBlock≠some k:=fun k hk e=>by have:=(HNL.out k e).1;omega
    have hs7:tb+1≤w7.heap.size:=by have:=hgrow7.size;rw [size_al] at this;omega
    have hv7:BlkAt w7 vb 29 #[.int .u8 5,.int .i64 0,.string ⟨#[]⟩,.slice na j nc,.slice ia j ic]:=(hkeep7 vb (by omega) (hnv vb (by omega))).trans HV6.out
    have hm7:BlkAt w7 tb 41 #[.string nm,.int .u8 xk,.int .i64 xn,.string xt,.slice xa xl xc,.slice xb xm xe]:=(hkeep7 tb (by omega) (fun e=>by have:=(HNL.out tb e).2;omega)).trans HM6.out
    have hb7:Below w.heap.size w w7:=(bel_alloc HB6.out _).grown hgrow7 (by rw [size_al];have:=HB6.out.size;omega) (fun k hk=>by have:=(HNL.out k hk).1;omega)
    have hi7:ItemsBy w7 (vb+1) (.slice ia j ic) (.slice (some ⟨g7,0,none⟩) (j+1) p7) ps:=HI6.out.other hat7 (rows_ne HI6.out.1 HN6.out (by decide)) (fun k hk _ hne=>hkeep7 k hk hne)
    have hk7:∀ k,k<vb+1→k≠vb→w7.heap[k]?=w4.heap[k]?:=fun k h1 h2=>(hkeep7 k (by omega) (hnv k h1)).trans (HK6.out k h1 h2)
    obtain ⟨v0,v1,v2,v3,v4,vf⟩:=blk5 hv7
    obtain ⟨w8,hw8⟩:∃ y,y=w7.setCell ⟨vb,3,none⟩ (.slice (some ⟨g7,0,none⟩) (j+1) p7):=⟨_,rfl⟩
    have hs8:w8.heap.size=w7.heap.size:=by rw [hw8,setCell_size]
    have HV8:Hid (BlkAt w8 vb 29 #[.int .u8 5,.int .i64 0,.string ⟨#[]⟩,.slice (some ⟨g7,0,none⟩) (j+1) p7,.slice ia j ic]):=by rw [hw8];exact hv7.set 3 _
    have HM8:Hid (BlkAt w8 tb 41 #[.string nm,.int .u8 xk,.int .i64 xn,.string xt,.slice xa xl xc,.slice xb xm xe]):=by rw [hw8];exact hm7.set_far (by omega) 3 _
    have HB8:Hid (Below w.heap.size w w8):=by rw [hw8];exact bel_set hb7 (p:=⟨vb,3,none⟩) (by show w.heap.size≤vb;omega) _
    have HI8:Hid (ItemsBy w8 (vb+1) (.slice ia j ic) (.slice (some ⟨g7,0,none⟩) (j+1) p7) ps):=by rw [hw8];exact hi7.up ((Up.of_below (Below.refl _ _)).set (by omega) _ _)
    have HK8:Hid (∀ k,k<vb+1→k≠vb→w8.heap[k]?=w4.heap[k]?):=fun k h1 h2=>by rw [hw8];exact (Below.heap_setCell _ _ _ _ h2).trans (hk7 k h1 h2)
    have HN8:Hid (w8.ownsRow (vb+1) 9 1 (.slice (some ⟨g7,0,none⟩) (j+1) p7) (j+1) (rowN ys (j+1))):=by
     rw [hw8,HXT.out]
     exact row_far hown7 (by intro e;have e2:vb=g7:=Option.some.inj e;omega) 3 _
    have HW8:=Lib.hid hw8
    have hz8:tb+1≤w8.heap.size:=by omega
    clear hown7 hgrow7 hat7 hkeep7 hnv hv7 hm7 hb7 hi7 hk7 hw8 HM6 HV6 HN6 HI6 HB6 HK6 HNCC HMX m0 m1 m2 m3 m4 m5 mf e0
    go_wp2_with fail
    rw [← HW8.out]
    clear v0 v1 v2 v3 v4 vf
    obtain ⟨q0,q1,q2,q3,q4,qf⟩:=blk5 HV8.out
    obtain ⟨t0,t1,t2,t3,t4,t5,tf⟩:=blk6 HM8.out
    have hsz1:vb+1≤w8.heap.size:=by omega
    have hcl:vb<vb+1:=Nat.lt_succ_self vb
    have HDUP:=Lib.hid (fun w' (hb:Below w8.heap.size w8 w')=>(HCP.out _ HVAL.out).use (below_more HB8.out hb))
    have hgl:g7<w8.heap.size:=(World.ownsRow.lt HN8.out g7 rfl).2
    simp only [VC.val] at HDUP
    go_region_law (first
     | (refine step_append_lies _ (by rfl) _ _ _ (by rfl) (vb+1) 29 i0 _ 5 80 Tryz.underlying27 HI.out HZ0.out HZ1.out HZ2.out rfl (by omega) (.slice ia j ic) j (xiCells ps) (by rfl) (World.ownsRow.alloc ho4 _) ⟨wc.heap.size,0,none⟩ 1 1 [.int .u8 zk,.int .i64 zn,.string zt,.slice za zl zc,.slice zb zm ze] (by rfl) (by rfl) (World.news_of_block (cs:=#[.int .u8 zk,.int .i64 zn,.string zt,.slice za zl zc,.slice zb zm ze]) (t:=29) (fr:=(0,0)) (heap_alloc_new wc _)) (by intro u hu;simp only [List.mem_cons,List.not_mem_nil,or_false] at hu;rcases hu with rfl | rfl | rfl | rfl | rfl <;> rfl) (by omega) (by unfold maxLen;omega) (by omega) (by rw [size_al];omega) (wc.heap.size+1) (size_al _ _) ?_;intro gg cp' wd hownd hgrow hat hlt;have hcd:=blk_grown ho4 hgrow (BlkAt.keep HV8.out hbc) hcl;obtain ⟨r0,r1,r2,r3,r4,rf⟩:=blk5 hcd)
     | (go_simp;go_at_call 35;refine (HDUP.out _ (by (repeat (first | exact Below.refl _ _ | refine bel_drew ?_)))).mono ?_;rintro e wc ⟨⟨zk,zn,zt,za,zl,zc,zb,zm,ze⟩,U,rfl,hEU,hb4,hnew4⟩;simp only;have hbc:Below w8.heap.size w8 wc:=below_more (by (repeat (first | exact Below.refl _ _ | refine bel_drew ?_))) hb4;obtain ⟨p0,p1,p2,p3,p4,pf⟩:=blk5 (BlkAt.keep HV8.out hbc);obtain ⟨s0,s1,s2,s3,s4,sf⟩:=blk5 ((BlkAt.keep HV8.out hbc).alloc (.cells #[.int .u8 zk,.int .i64 zn,.string zt,.slice za zl zc,.slice zb zm ze] 29));have hz4:=hbc.size;have ho4:=own_len hps (HI8.out.up (Up.of_below hbc)).1))
    all_goals
     have hfz4:vb+1≤wc.heap.size:=Nat.le_trans hsz1 hz4
     have hne6:∀ k,k<vb+1→some k≠(Value.slice ia j ic).ownBlock:=fun k hk e=>by
      have:=(World.ownsRow.lt ho4 k e.symm).1
      omega
     have hid6:ItemsBy wd (vb+1) (.slice (some ⟨gg,0,none⟩) (j+1) cp') (.slice (some ⟨g7,0,none⟩) (j+1) p7) (ps++[(⟨zk,zn,zt,za,zl,zc,zb,zm,ze⟩,U)]) :=
      ItemsBy.snoc HI8.out hnew4 hsz1 hz4 (fun k hk=>by have e2:g7=k:=Option.some.inj hk;omega) (hat.elim (fun e=>Or.inl e.symm) (fun e=>Or.inr ⟨gg,rfl,by omega⟩)) (by rw [hps];exact hownd) (fun k hk _ hne=>(hgrow.block k (by rw [size_al];omega) (fun e=>hne e.symm)).trans ((bel_alloc (Below.refl _ _) _).block k hk)) (fun k hk _=>hbc.block k hk)
     have hkd:∀ k,k<w8.heap.size→(Value.slice ia j ic).ownBlock≠some k→wd.heap[k]?=w8.heap[k]?:=fun k hk hne=>(hgrow.block k (by rw [size_al];omega) (fun e=>hne e.symm)).trans (((bel_alloc (Below.refl _ _) _).block k (by omega)).trans (hbc.block k hk))
     have hnd:wd.ownsRow (vb+1) 9 1 (.slice (some ⟨g7,0,none⟩) (j+1) p7) (j+1) (rowN ys (j+1)):=row_same HN8.out fun k hk=>hkd k (World.ownsRow.lt HN8.out k hk).2 (fun e=>by
      rcases rows_ne HN8.out HI8.out.1 (by decide) with e2 | e2
      ·rw [e2] at hk;cases hk
      ·exact e2 (hk.trans e.symm))
     have hbd:Below w.heap.size w wd:=(bel_alloc (below_more HB8.out hbc) _).grown hgrow (by rw [size_al];have:=HB8.out.size;omega) (fun k hk=>by have:=(World.ownsRow.lt ho4 k hk).1;omega)
     have hsd:w8.heap.size≤wd.heap.size:=by have h1:=hgrow.size;rw [size_al] at h1;omega
     have HI9:Hid (ItemsBy (wd.setCell ⟨vb,4,none⟩ (.slice (some ⟨gg,0,none⟩) (j+1) cp')) (vb+1) (.slice (some ⟨gg,0,none⟩) (j+1) cp') (.slice (some ⟨g7,0,none⟩) (j+1) p7) (ps++[(⟨zk,zn,zt,za,zl,zc,zb,zm,ze⟩,U)])):=hid6.up ((Up.of_below (Below.refl _ _)).set (by omega) _ _)
     have HB9:Hid (Below w.heap.size w (wd.setCell ⟨vb,4,none⟩ (.slice (some ⟨gg,0,none⟩) (j+1) cp'))):=bel_set hbd (p:=⟨vb,4,none⟩) (by show w.heap.size≤vb;omega) _
     have HV9:Hid (BlkAt (wd.setCell ⟨vb,4,none⟩ (.slice (some ⟨gg,0,none⟩) (j+1) cp')) vb 29 #[.int .u8 5,.int .i64 0,.string ⟨#[]⟩,.slice (some ⟨g7,0,none⟩) (j+1) p7,.slice (some ⟨gg,0,none⟩) (j+1) cp']):=hcd.set 4 _
     have HN9:Hid ((wd.setCell ⟨vb,4,none⟩ (.slice (some ⟨gg,0,none⟩) (j+1) cp')).ownsRow (vb+1) 9 1 (.slice (some ⟨g7,0,none⟩) (j+1) p7) (j+1) (rowN ys (j+1))):=row_far hnd (by intro e;have e2:vb=g7:=Option.some.inj e;omega) 4 _
     have HK9:Hid (∀ k,k<vb+1→k≠vb→(wd.setCell ⟨vb,4,none⟩ (.slice (some ⟨gg,0,none⟩) (j+1) cp')).heap[k]?=w4.heap[k]?):=fun k h1 h2=>(Below.heap_setCell _ _ _ _ h2).trans ((hkd k (by omega) (fun e=>hne6 k h1 e.symm)).trans (HK8.out k h1 h2))
     have hs9:vb+1≤(wd.setCell ⟨vb,4,none⟩ (.slice (some ⟨gg,0,none⟩) (j+1) cp')).heap.size:=by rw [setCell_size];omega
     have HP9:Hid ((ps++[((⟨zk,zn,zt,za,zl,zc,zb,zm,ze⟩:VC),U)]).map Prod.snd |> OutE E (ys.take (j+1))):=by
      show OutE _ _ _
      rw [List.map_append,List.take_add_one,HY.out]
      exact HPS.out.snoc hEU
     have hp9:(ps++[((⟨zk,zn,zt,za,zl,zc,zb,zm,ze⟩:VC),U)]).length=j+1:=by rw [List.length_append,hps];rfl
     clear hEU hownd hgrow hat hlt hcd hid6 hkd hnd hbd hsd ho4 hb4 hbc hnew4 hne6 q0 q1 q2 q3 q4 qf p0 p1 p2 p3 p4 pf s0 s1 s2 s3 s4 sf r0 r1 r2 r3 r4 rf t0 t1 t2 t3 t4 t5 tf HV8 HM8 HB8 HI8 HK8 HN8 HW8
     generalize wd.setCell ⟨vb,4,none⟩ (.slice (some ⟨gg,0,none⟩) (j+1) cp')=we at HI9 HB9 HV9 HN9 HK9 hs9 ⊢
     go_wp2_with fail
     exact ⟨⟨j+1,_,_,_,_,cp',by omega,by go_num,hp9,HP9,hs9,HB9,HK9,HV9,HN9,HI9⟩,by simp [intOf];omega⟩
   ·have p0:w5.cell? ⟨g,i*6,none⟩=some (.string z.name):=cell_keep hb5 (hcell i z hz 0 _ rfl)
    have k0:(0:Int)≤(i:Int):=by omega
    have k1:(i:Int)<(n:Int):=by omega
    have HZZ:=Lib.hid hz
    clear hcell hb5 hz
    cases bq
    case' true =>
     go_wp2_with fail
     rw [← HW5.out,HTB.out]
     go_quiet (fail)
     have hr6:BlkAt (w5.drewN nq) w.heap.size 29 #[.int .u8 0,.int .i64 0,.string ⟨#[]⟩,.slice none 0 0,.slice none 0 0]:=BlkAt.keep ((HK5.out w.heap.size (by omega) (by omega)).trans HR4.out) (below_drewN (Below.refl _ _) nq)
     have HB6:=Lib.hid (below_more HB5.out (below_drewN (Below.refl _ _) nq))
     obtain ⟨z0,z1,z2,z3,z4,zf⟩:=blk5 hr6
     have HJ1:=Lib.hid (HJI.out ▸ HY.out)
     go_wp2_with fail
     exact bodyPost_ret (v:=.tuple #[.agg #[.int .u8 0,.int .i64 0,.string ⟨#[]⟩,.slice none 0 0,.slice none 0 0],.int .i64 7]) (by simp [results,Tryz.results10,go_sem,z0,z1,z2,z3,z4]) rfl ⟨ys,HPERM.out,HSORT.out,bel_set (bel_set (bel_set (bel_set (bel_set HB6.out (Nat.le_refl _) _) (Nat.le_refl _) _) (Nat.le_refl _) _) (Nat.le_refl _) _) (Nat.le_refl _) _,Or.inl ⟨i,_,z,HZZ.out,HJ1.out,HQ.out (by first | rfl | trivial),rfl⟩⟩
    go_wp2_with fail
    rw [← HW5.out,HTB.out]
    go_quiet (fail)
    obtain ⟨w6,hw6⟩:∃ y,y=w5.drewN nq:=⟨_,rfl⟩
    rw [← hw6]
    have hb6:Below w5.heap.size w5 w6:=by rw [hw6];exact below_drewN (Below.refl _ _) nq
    have hs6:w6.heap.size=tb+1:=by rw [hw6];exact hs5
    have HM6:=Lib.hid (HM5.out.keep hb6)
    have HV6:=Lib.hid (HV5.out.keep hb6)
    have HN6:=Lib.hid (ownsRow_keep HN5.out hb6)
    have HI6:=Lib.hid (HI5.out.up (Up.of_below hb6))
    have HB6:=Lib.hid (below_more HB5.out hb6)
    have HK6:Hid (∀ k,k<vb+1→k≠vb→w6.heap[k]?=w4.heap[k]?):=fun k h1 h2=>(hb6.block k (by omega)).trans (HK5.out k h1 h2)
    clear hw6 hb6 HM5 HV5 HN5 HI5 HB5 HK5 d0 d1 d2 d3 d4 d5 df e0 c0 c1 c2 c3 c4 c5 HW5 HTB
    obtain ⟨m0,m1,m2,m3,m4,m5,mf⟩:=blk6 HM6.out
    have e0:w6.cell? ⟨tb,0,none⟩=some (.string nm):=m0
    obtain ⟨v0,v1,v2,v3,v4,vf⟩:=blk5 HV6.out
    have hnc:∀ i u,[Value.string nm][i]?=some u→(w6.alloc (.cells #[.string nm] 9)).cell? ((⟨w6.heap.size,0,none⟩:Addr).add i)=some u:=fun i u hj=>by
     have hadd:(⟨w6.heap.size,0,none⟩:Addr).add i=⟨w6.heap.size,i,none⟩:=by unfold Addr.add;split <;> simp_all
     rw [hadd,cell_al_eq _ _ _ _ _ rfl]
     simpa using hj
    have HNCC:=Lib.hid hnc
    have HMX:Hid (vb+1≤(w6.alloc (.cells #[.string nm] 9)).heap.size):=by show _≤_;rw [size_al];omega
    have HS6:=Lib.hid hs6
    clear hnc hs6
    go_wp2_with (at_builtin;refine wpList_append_own_at _ rfl _ _ 26 rfl (vb+1) 9 j0 (.string ⟨#[]⟩) 1 16 Tryz.underlying26 HJ.out HY0.out HY1.out HY2.out rfl (by decide) _ _ _ rfl (World.ownsRow.alloc HN6.out _) ⟨_,0,none⟩ 1 1 [.string nm] rfl rfl HNCC.out (by intro u hu;rw [List.mem_singleton.1 hu];rfl) (by unfold maxLen;omega) (by omega) HMX.out ?_)
    intro v' w7 hown7 hgrow7 _ hat7
    have hs6:=HS6.out
    have hat7:=hat7.imp_right (fun e:v'.ownBlock=some (w6.heap.size+1)=>(⟨_,e,by omega⟩:∃ g,v'.ownBlock=some g∧w6.heap.size≤g))
    obtain ⟨g7,p7,rfl,hg7,hg7'⟩:=World.ownsRow.form hown7 (by omega)
    have hkeep7:∀ k,k<w6.heap.size→(Value.slice na j nc).ownBlock≠some k→w7.heap[k]?=w6.heap[k]?:=fun k hk hne=>(hgrow7.block k (by rw [size_al];omega) (fun e=>hne e.symm)).trans ((bel_alloc (Below.refl _ w6) _).block k hk)
    have hnv:∀ k,k<vb+1→(Value.slice na j nc).ownBlock≠some k:=fun k hk e=>by have:=(HNL.out k e).1;omega
    have hs7:tb+1≤w7.heap.size:=by have:=hgrow7.size;rw [size_al] at this;omega
    have hv7:BlkAt w7 vb 29 #[.int .u8 5,.int .i64 0,.string ⟨#[]⟩,.slice na j nc,.slice ia j ic]:=(hkeep7 vb (by omega) (hnv vb (by omega))).trans HV6.out
    have hm7:BlkAt w7 tb 41 #[.string nm,.int .u8 xk,.int .i64 xn,.string xt,.slice xa xl xc,.slice xb xm xe]:=(hkeep7 tb (by omega) (fun e=>by have:=(HNL.out tb e).2;omega)).trans HM6.out
    have hb7:Below w.heap.size w w7:=(bel_alloc HB6.out _).grown hgrow7 (by rw [size_al];have:=HB6.out.size;omega) (fun k hk=>by have:=(HNL.out k hk).1;omega)
    have hi7:ItemsBy w7 (vb+1) (.slice ia j ic) (.slice (some ⟨g7,0,none⟩) (j+1) p7) ps:=HI6.out.other hat7 (rows_ne HI6.out.1 HN6.out (by decide)) (fun k hk _ hne=>hkeep7 k hk hne)
    have hk7:∀ k,k<vb+1→k≠vb→w7.heap[k]?=w4.heap[k]?:=fun k h1 h2=>(hkeep7 k (by omega) (hnv k h1)).trans (HK6.out k h1 h2)
    obtain ⟨v0,v1,v2,v3,v4,vf⟩:=blk5 hv7
    obtain ⟨w8,hw8⟩:∃ y,y=w7.setCell ⟨vb,3,none⟩ (.slice (some ⟨g7,0,none⟩) (j+1) p7):=⟨_,rfl⟩
    have hs8:w8.heap.size=w7.heap.size:=by rw [hw8,setCell_size]
    have HV8:Hid (BlkAt w8 vb 29 #[.int .u8 5,.int .i64 0,.string ⟨#[]⟩,.slice (some ⟨g7,0,none⟩) (j+1) p7,.slice ia j ic]):=by rw [hw8];exact hv7.set 3 _
    have HM8:Hid (BlkAt w8 tb 41 #[.string nm,.int .u8 xk,.int .i64 xn,.string xt,.slice xa xl xc,.slice xb xm xe]):=by rw [hw8];exact hm7.set_far (by omega) 3 _
    have HB8:Hid (Below w.heap.size w w8):=by rw [hw8];exact bel_set hb7 (p:=⟨vb,3,none⟩) (by show w.heap.size≤vb;omega) _
    have HI8:Hid (ItemsBy w8 (vb+1) (.slice ia j ic) (.slice (some ⟨g7,0,none⟩) (j+1) p7) ps):=by rw [hw8];exact hi7.up ((Up.of_below (Below.refl _ _)).set (by omega) _ _)
    have HK8:Hid (∀ k,k<vb+1→k≠vb→w8.heap[k]?=w4.heap[k]?):=fun k h1 h2=>by rw [hw8];exact (Below.heap_setCell _ _ _ _ h2).trans (hk7 k h1 h2)
    have HN8:Hid (w8.ownsRow (vb+1) 9 1 (.slice (some ⟨g7,0,none⟩) (j+1) p7) (j+1) (rowN ys (j+1))):=by
     rw [hw8,HXT.out]
     exact row_far hown7 (by intro e;have e2:vb=g7:=Option.some.inj e;omega) 3 _
    have HW8:=Lib.hid hw8
    have hz8:tb+1≤w8.heap.size:=by omega
    clear hown7 hgrow7 hat7 hkeep7 hnv hv7 hm7 hb7 hi7 hk7 hw8 HM6 HV6 HN6 HI6 HB6 HK6 HNCC HMX m0 m1 m2 m3 m4 m5 mf e0
    go_wp2_with fail
    rw [← HW8.out]
    clear v0 v1 v2 v3 v4 vf
    obtain ⟨q0,q1,q2,q3,q4,qf⟩:=blk5 HV8.out
    obtain ⟨t0,t1,t2,t3,t4,t5,tf⟩:=blk6 HM8.out
    have hsz1:vb+1≤w8.heap.size:=by omega
    have hcl:vb<vb+1:=Nat.lt_succ_self vb
    have HDUP:=Lib.hid (fun w' (hb:Below w8.heap.size w8 w')=>(HCP.out _ HVAL.out).use (below_more HB8.out hb))
    have hgl:g7<w8.heap.size:=(World.ownsRow.lt HN8.out g7 rfl).2
    simp only [VC.val] at HDUP
    go_region_law (first
     | (refine step_append_lies _ (by rfl) _ _ _ (by rfl) (vb+1) 29 i0 _ 5 80 Tryz.underlying27 HI.out HZ0.out HZ1.out HZ2.out rfl (by omega) (.slice ia j ic) j (xiCells ps) (by rfl) (World.ownsRow.alloc ho4 _) ⟨wc.heap.size,0,none⟩ 1 1 [.int .u8 zk,.int .i64 zn,.string zt,.slice za zl zc,.slice zb zm ze] (by rfl) (by rfl) (World.news_of_block (cs:=#[.int .u8 zk,.int .i64 zn,.string zt,.slice za zl zc,.slice zb zm ze]) (t:=29) (fr:=(0,0)) (heap_alloc_new wc _)) (by intro u hu;simp only [List.mem_cons,List.not_mem_nil,or_false] at hu;rcases hu with rfl | rfl | rfl | rfl | rfl <;> rfl) (by omega) (by unfold maxLen;omega) (by omega) (by rw [size_al];omega) (wc.heap.size+1) (size_al _ _) ?_;intro gg cp' wd hownd hgrow hat hlt;have hcd:=blk_grown ho4 hgrow (BlkAt.keep HV8.out hbc) hcl;obtain ⟨r0,r1,r2,r3,r4,rf⟩:=blk5 hcd)
     | (go_simp;go_at_call 35;refine (HDUP.out _ (by (repeat (first | exact Below.refl _ _ | refine bel_drew ?_)))).mono ?_;rintro e wc ⟨⟨zk,zn,zt,za,zl,zc,zb,zm,ze⟩,U,rfl,hEU,hb4,hnew4⟩;simp only;have hbc:Below w8.heap.size w8 wc:=below_more (by (repeat (first | exact Below.refl _ _ | refine bel_drew ?_))) hb4;obtain ⟨p0,p1,p2,p3,p4,pf⟩:=blk5 (BlkAt.keep HV8.out hbc);obtain ⟨s0,s1,s2,s3,s4,sf⟩:=blk5 ((BlkAt.keep HV8.out hbc).alloc (.cells #[.int .u8 zk,.int .i64 zn,.string zt,.slice za zl zc,.slice zb zm ze] 29));have hz4:=hbc.size;have ho4:=own_len hps (HI8.out.up (Up.of_below hbc)).1))
    all_goals
     have hfz4:vb+1≤wc.heap.size:=Nat.le_trans hsz1 hz4
     have hne6:∀ k,k<vb+1→some k≠(Value.slice ia j ic).ownBlock:=fun k hk e=>by
      have:=(World.ownsRow.lt ho4 k e.symm).1
      omega
     have hid6:ItemsBy wd (vb+1) (.slice (some ⟨gg,0,none⟩) (j+1) cp') (.slice (some ⟨g7,0,none⟩) (j+1) p7) (ps++[(⟨zk,zn,zt,za,zl,zc,zb,zm,ze⟩,U)]) :=
      ItemsBy.snoc HI8.out hnew4 hsz1 hz4 (fun k hk=>by have e2:g7=k:=Option.some.inj hk;omega) (hat.elim (fun e=>Or.inl e.symm) (fun e=>Or.inr ⟨gg,rfl,by omega⟩)) (by rw [hps];exact hownd) (fun k hk _ hne=>(hgrow.block k (by rw [size_al];omega) (fun e=>hne e.symm)).trans ((bel_alloc (Below.refl _ _) _).block k hk)) (fun k hk _=>hbc.block k hk)
     have hkd:∀ k,k<w8.heap.size→(Value.slice ia j ic).ownBlock≠some k→wd.heap[k]?=w8.heap[k]?:=fun k hk hne=>(hgrow.block k (by rw [size_al];omega) (fun e=>hne e.symm)).trans (((bel_alloc (Below.refl _ _) _).block k (by omega)).trans (hbc.block k hk))
     have hnd:wd.ownsRow (vb+1) 9 1 (.slice (some ⟨g7,0,none⟩) (j+1) p7) (j+1) (rowN ys (j+1)):=row_same HN8.out fun k hk=>hkd k (World.ownsRow.lt HN8.out k hk).2 (fun e=>by
      rcases rows_ne HN8.out HI8.out.1 (by decide) with e2 | e2
      ·rw [e2] at hk;cases hk
      ·exact e2 (hk.trans e.symm))
     have hbd:Below w.heap.size w wd:=(bel_alloc (below_more HB8.out hbc) _).grown hgrow (by rw [size_al];have:=HB8.out.size;omega) (fun k hk=>by have:=(World.ownsRow.lt ho4 k hk).1;omega)
     have hsd:w8.heap.size≤wd.heap.size:=by have h1:=hgrow.size;rw [size_al] at h1;omega
     have HI9:Hid (ItemsBy (wd.setCell ⟨vb,4,none⟩ (.slice (some ⟨gg,0,none⟩) (j+1) cp')) (vb+1) (.slice (some ⟨gg,0,none⟩) (j+1) cp') (.slice (some ⟨g7,0,none⟩) (j+1) p7) (ps++[(⟨zk,zn,zt,za,zl,zc,zb,zm,ze⟩,U)])):=hid6.up ((Up.of_below (Below.refl _ _)).set (by omega) _ _)
     have HB9:Hid (Below w.heap.size w (wd.setCell ⟨vb,4,none⟩ (.slice (some ⟨gg,0,none⟩) (j+1) cp'))):=bel_set hbd (p:=⟨vb,4,none⟩) (by show w.heap.size≤vb;omega) _
     have HV9:Hid (BlkAt (wd.setCell ⟨vb,4,none⟩ (.slice (some ⟨gg,0,none⟩) (j+1) cp')) vb 29 #[.int .u8 5,.int .i64 0,.string ⟨#[]⟩,.slice (some ⟨g7,0,none⟩) (j+1) p7,.slice (some ⟨gg,0,none⟩) (j+1) cp']):=hcd.set 4 _
     have HN9:Hid ((wd.setCell ⟨vb,4,none⟩ (.slice (some ⟨gg,0,none⟩) (j+1) cp')).ownsRow (vb+1) 9 1 (.slice (some ⟨g7,0,none⟩) (j+1) p7) (j+1) (rowN ys (j+1))):=row_far hnd (by intro e;have e2:vb=g7:=Option.some.inj e;omega) 4 _
     have HK9:Hid (∀ k,k<vb+1→k≠vb→(wd.setCell ⟨vb,4,none⟩ (.slice (some ⟨gg,0,none⟩) (j+1) cp')).heap[k]?=w4.heap[k]?):=fun k h1 h2=>(Below.heap_setCell _ _ _ _ h2).trans ((hkd k (by omega) (fun e=>hne6 k h1 e.symm)).trans (HK8.out k h1 h2))
     have hs9:vb+1≤(wd.setCell ⟨vb,4,none⟩ (.slice (some ⟨gg,0,none⟩) (j+1) cp')).heap.size:=by rw [setCell_size];omega
     have HP9:Hid ((ps++[((⟨zk,zn,zt,za,zl,zc,zb,zm,ze⟩:VC),U)]).map Prod.snd |> OutE E (ys.take (j+1))):=by
      show OutE _ _ _
      rw [List.map_append,List.take_add_one,HY.out]
      exact HPS.out.snoc hEU
     have hp9:(ps++[((⟨zk,zn,zt,za,zl,zc,zb,zm,ze⟩:VC),U)]).length=j+1:=by rw [List.length_append,hps];rfl
     clear hEU hownd hgrow hat hlt hcd hid6 hkd hnd hbd hsd ho4 hb4 hbc hnew4 hne6 q0 q1 q2 q3 q4 qf p0 p1 p2 p3 p4 pf s0 s1 s2 s3 s4 sf r0 r1 r2 r3 r4 rf t0 t1 t2 t3 t4 t5 tf HV8 HM8 HB8 HI8 HK8 HN8 HW8
     generalize wd.setCell ⟨vb,4,none⟩ (.slice (some ⟨gg,0,none⟩) (j+1) cp')=we at HI9 HB9 HV9 HN9 HK9 hs9 ⊢
     go_wp2_with fail
     exact ⟨⟨j+1,_,_,_,_,cp',by omega,by go_num,hp9,HP9,hs9,HB9,HK9,HV9,HN9,HI9⟩,by simp [intOf];omega⟩
  ·obtain rfl:j=n:=by omega
   have hj1:¬ (j:Int)<(j:Int):=by omega
   obtain ⟨c0,c1,c2,c3,c4,cf⟩:=blk5 HVr.out
   have HRr:Hid (BlkAt wr w.heap.size 29 #[.int .u8 0,.int .i64 0,.string ⟨#[]⟩,.slice none 0 0,.slice none 0 0]):=(HKr.out w.heap.size (by omega) (by omega)).trans HR4.out
   obtain ⟨z0,z1,z2,z3,z4,zf⟩:=blk5 HRr.out
   have hset:∀ k,k≠w.heap.size→(World.heap (((((wr.setCell ⟨w.heap.size,0,none⟩ (.int .u8 5)).setCell ⟨w.heap.size,1,none⟩ (.int .i64 0)).setCell ⟨w.heap.size,2,none⟩ (.string ⟨#[]⟩)).setCell ⟨w.heap.size,3,none⟩ (.slice na j nc)).setCell ⟨w.heap.size,4,none⟩ (.slice ia j ic)))[k]?=wr.heap[k]?:=fun k hk=>heap_set5 _ _ _ _ _ _ _ _ hk
   have htk:ys.take j=ys:=List.take_of_length_le (by rw [HN.out];exact Nat.le_refl _)
   have hIt:ItemsAt (hidden (offB w.heap.size none) (((((wr.setCell ⟨w.heap.size,0,none⟩ (.int .u8 5)).setCell ⟨w.heap.size,1,none⟩ (.int .i64 0)).setCell ⟨w.heap.size,2,none⟩ (.string ⟨#[]⟩)).setCell ⟨w.heap.size,3,none⟩ (.slice na j nc)).setCell ⟨w.heap.size,4,none⟩ (.slice ia j ic))) (.slice ia j ic) (ps.map Prod.snd):=by
    have h1:=HIr.out.own.out (by omega)
    exact h1.carry fun k hk hP=>⟨offB_none.2 (by have:=offB_none.1 hP;omega),hset k (by have:=offB_none.1 hP;omega)⟩
   have hNs:StrsAt (hidden (offB (vb+1) none) wr) (.slice na j nc) (ys.map XM.name):=by
    have h0:=HNr.out
    unfold rowN at h0
    rw [htk] at h0
    have h1:=strs_own (B1:=vb+1) (B:=vb+1) (v:=.slice na j nc) (l:=ys.map XM.name) (w:=wr) (by rw [List.length_map,HN.out];exact h0) (Nat.le_refl _) (fun s hs=>by
     obtain ⟨y,hy,rfl⟩:=List.mem_map.1 hs
     obtain ⟨_,_,_,-,-,h2⟩:=HH.out
     exact h2 y (HPERM.out.mem_iff.1 hy)) (by rw [List.length_map,HN.out];omega)
    exact h1
   have hNs2:StrsAt (hidden (offB w.heap.size none) (((((wr.setCell ⟨w.heap.size,0,none⟩ (.int .u8 5)).setCell ⟨w.heap.size,1,none⟩ (.int .i64 0)).setCell ⟨w.heap.size,2,none⟩ (.string ⟨#[]⟩)).setCell ⟨w.heap.size,3,none⟩ (.slice na j nc)).setCell ⟨w.heap.size,4,none⟩ (.slice ia j ic))) (.slice na j nc) (ys.map XM.name):=hNs.imp (hid_imp fun k hk hP=>⟨offB_none.2 (by have:=offB_none.1 hP;omega),hset k (by have:=offB_none.1 hP;omega)⟩)
   have HNV:Hid (NewV w.heap.size (((((wr.setCell ⟨w.heap.size,0,none⟩ (.int .u8 5)).setCell ⟨w.heap.size,1,none⟩ (.int .i64 0)).setCell ⟨w.heap.size,2,none⟩ (.string ⟨#[]⟩)).setCell ⟨w.heap.size,3,none⟩ (.slice na j nc)).setCell ⟨w.heap.size,4,none⟩ (.slice ia j ic)) ((.mk 5 0 ⟨#[]⟩ (ys.map XM.name) (ps.map Prod.snd))) (.agg #[.int .u8 5,.int .i64 0,.string ⟨#[]⟩,.slice na j nc,.slice ia j ic])):=valAt_mk (by decide) (by decide) (by decide) (by decide) (by decide) hNs2 hIt
   have HPE:Hid (OutE E ys (ps.map Prod.snd)):=by have h1:=HPS.out;rwa [htk] at h1
   clear hIt hNs hNs2 hset htk HIr HNr HPS HVr HRr HKr
   go_wp2_with fail
   exact bodyPost_ret (v:=.tuple #[.agg #[.int .u8 5,.int .i64 0,.string ⟨#[]⟩,.slice na j nc,.slice ia j ic],.int .i64 0]) (by simp [results,Tryz.results10,go_sem,z0,z1,z2,z3,z4]) rfl ⟨ys,HPERM.out,HSORT.out,bel_set (bel_set (bel_set (bel_set (bel_set HBr.out (Nat.le_refl _) _) (Nat.le_refl _) _) (Nat.le_refl _) _) (Nat.le_refl _) _) (Nat.le_refl _) _,Or.inr ⟨⟨5,0,⟨#[]⟩,na,j,nc,ia,j,ic⟩,_,HPE.out,rfl,HNV.out⟩⟩
theorem objectOf_any (xs:List XM) (v:Value) (w:World) (h:MemsAt w v xs) (hne:xs≠[]) (hl:xs.length≤1000) (hasc:xs.Pairwise XLt) (hwt:∀ x ∈ xs,wt x.V≤1000000000) :
 Calls Tryz.prog 10 #[v] w fun e w'=>∃ x:VC,e=.returned (.tuple #[x.val,.int .i64 0])∧Below w.heap.size w w'∧NewV w.heap.size w' (objJ xs) x.val:=by
 obtain ⟨b,o,c,rfl,hc,hv⟩:=h
 refine (objectOf_gen (fun y u=>u=y.V) xs _ w ⟨b,o,c,rfl,hc,fun x hx=>(hv x hx).2⟩ (fun x hx W hW=>?_) hne hl).mono fun e w' h=>?_
 ·refine (Copy_any x.V x.c.val W ((hv x hx).1.imp (pure_keep hW)) (hwt x hx)).mono fun e w' h=>?_
  obtain ⟨z,h1,h2,h3⟩:=h
  exact ⟨z,_,h1,rfl,h2,h3⟩
 ·obtain ⟨ys,hperm,hsort,hbel,hcase⟩:=h
  obtain rfl:=sort_same xs ys hperm hasc hsort
  rcases hcase with ⟨i,y,z,hz,hy,hn,-⟩ | ⟨x,us,hout,rfl,hnew⟩
  ·exfalso
   obtain ⟨hi,ez⟩:=List.getElem?_eq_some_iff.1 hz
   obtain ⟨hi2,ey⟩:=List.getElem?_eq_some_iff.1 hy
   have h1:=List.pairwise_iff_getElem.1 hasc i (i+1) hi hi2 (by omega)
   rw [ez,ey,XLt,hn,bl_irrefl] at h1
   cases h1
  ·have hus:us=ys.map XM.V:=by
    refine List.ext_getElem? fun i=>?_
    rw [List.getElem?_map]
    cases hy:ys[i]? with
    | none =>
      rw [List.getElem?_eq_none_iff] at hy
      exact List.getElem?_eq_none_iff.2 (by rw [hout.1];exact hy)
    | some y =>
      obtain ⟨u,hu,rfl⟩:=hout.2 i y hy
      exact hu
   exact ⟨x,rfl,hbel,by rw [objJ,← hus];exact hnew⟩
end

section
open Go.RowKit
def mapgX (x:MapgP) (p r:VC):List XM:=[⟨tPaths,p,textsJ x.paths⟩,⟨tRepos,r,textsJ x.repos⟩,⟨tTerm,⟨1,if x.term=true then 1 else 0,⟨#[]⟩,none,0,0,none,0,0⟩,boolJ x.term⟩,⟨tThr,⟨2,x.thr,⟨#[]⟩,none,0,0,none,0,0⟩,numJ x.thr⟩]
def mapgJ (x:MapgP):JV:=.mk 5 0 ⟨#[]⟩ [tPaths,tRepos,tTerm,tThr] [textsJ x.paths,textsJ x.repos,boolJ x.term,numJ x.thr]
theorem mapgX_obj (x:MapgP) (p r:VC):objJ (mapgX x p r)=mapgJ x:=rfl
theorem mapgX_asc (x:MapgP) (p r:VC):(mapgX x p r).Pairwise XLt:=by
 unfold mapgX XLt
 simp only [List.pairwise_cons,List.mem_cons,List.not_mem_nil,or_false,forall_eq_or_imp,forall_eq,List.Pairwise.nil,and_true]
 refine ⟨⟨?_,?_,?_⟩,⟨?_,?_⟩,?_,?_⟩ <;> first | kernel_rfl | simp
theorem objectOf_mapg (x:MapgP) (p r:VC) (b c:Nat) (w:World) (hp:ValAt (pureW w) (textsJ x.paths) p.val) (hr:ValAt (pureW w) (textsJ x.repos) r.val) (n0:-9223372036854775808≤x.thr) (n1:x.thr≤9223372036854775807) (w1:wt (textsJ x.paths)≤1000000000) (w2:wt (textsJ x.repos)≤1000000000)
 (hc:∀ j u,(xmCells (mapgX x p r))[j]?=some u→w.cell? ⟨b,j,none⟩=some u) :
 Calls Tryz.prog 10 #[.slice (some ⟨b,0,none⟩) 4 c] w fun e w'=>∃ y:VC,e=.returned (.tuple #[y.val,.int .i64 0])∧Below w.heap.size w w'∧NewV w.heap.size w' (mapgJ x) y.val:=by
 rw [← mapgX_obj x p r]
 refine objectOf_any (mapgX x p r) _ w ⟨b,0,c,rfl,fun i y hy j u hu=>?_,fun y hy=>?_⟩ (by simp [mapgX]) (by simp [mapgX]) (mapgX_asc x p r) (fun y hy=>?_)
 ·refine hc _ _ ?_ |> fun h=>by rwa [Nat.zero_add]
  have hj6:j<6:=by have:=(List.getElem?_eq_some_iff.1 hu).1;rwa [XM.cells_len] at this
  rw [xmCells_get _ i y hy j hj6]
  exact hu
 ·simp only [mapgX,List.mem_cons,List.not_mem_nil,or_false] at hy
  rcases hy with rfl | rfl | rfl | rfl
  ·exact ⟨hp,by show tPaths.size≤maxLen;decide⟩
  ·exact ⟨hr,by show tRepos.size≤maxLen;decide⟩
  ·refine ⟨valAt_leaf _ 1 _ ⟨#[]⟩ (by decide) (by decide) ?_ ?_ (by decide),by show tTerm.size≤maxLen;decide⟩ <;> (split <;> decide)
  ·exact ⟨valAt_leaf _ 2 x.thr ⟨#[]⟩ (by decide) (by decide) n0 n1 (by decide),by show tThr.size≤maxLen;decide⟩
 ·simp only [mapgX,List.mem_cons,List.not_mem_nil,or_false] at hy
  rcases hy with rfl | rfl | rfl | rfl
  ·exact w1
  ·exact w2
  ·show wt (boolJ x.term)≤_
   rw [wt_eq]
   show 4+0+0+0≤_
   omega
  ·show wt (numJ x.thr)≤_
   rw [wt_eq]
   show 4+0+0+0≤_
   omega
theorem valOf_pure {w w':World} {B:Nat} {V:JV} {v:Value} (h:NewV B w V v) (hb:Below w.heap.size w w'):ValAt (pureW w') V v:=by
 have h':ValAt (hidden (offB B none) w) V v:=h
 have h2:ValAt (pureW w) V v:=h'.imp fun p u hu=>by
  obtain ⟨-,q2,q3⟩:=(hidden_cell _ w p u).1 hu
  exact (hidden_cell _ w p u).2 ⟨rfl,q2,q3⟩
 exact h2.imp (pure_keep hb)
end

section
open Go.RowKit
def reposJ (l:List RepoP):JV:=.mk 5 0 ⟨#[]⟩ (namesR l) (l.map fun r=>textsJ r.2)
def chartJ (M:MapP):JV:=.mk 5 0 ⟨#[]⟩ [tMapping,tRepos] [listJ (M.maps.map mapgJ),reposJ M.repos]
theorem mayM_parts {M:MapP} (h:mayM M=true):1≤M.repos.length∧M.repos.length≤8∧M.maps.length≤16∧ascB (namesR M.repos)=true∧(∀ r ∈ M.repos,roleB r.1=true∧r.2.length≤8∧∀ s ∈ r.2,writ s=true)∧∀ x ∈ M.maps,wrongV x (namesR M.repos)=0:=by
 unfold mayM at h
 rw [Bool.and_eq_true,Bool.and_eq_true,Bool.and_eq_true,Bool.and_eq_true,Bool.and_eq_true,decide_eq_true_eq,decide_eq_true_eq,decide_eq_true_eq] at h
 obtain ⟨⟨⟨⟨⟨h1,h2⟩,h3⟩,h4⟩,h5⟩,h6⟩:=h
 refine ⟨h1,h2,h3,h4,fun r hr=>?_,fun x hx=>?_⟩
 ·have:=List.all_eq_true.1 h5 r hr
  unfold urlsB at this
  rw [Bool.and_eq_true,Bool.and_eq_true,decide_eq_true_eq] at this
  exact ⟨this.1,this.2.1,fun s hs=>List.all_eq_true.1 this.2.2 s hs⟩
 ·exact of_decide_eq_true (List.all_eq_true.1 h6 x hx)
theorem wrongGo_parts (R:List ByteArray):∀ (l A:List ByteArray),wrongGo R A l=0→(∀ s ∈ l,s ∈ R)∧l.Nodup∧∀ s ∈ l,s ∉ A
 | [],A,_=>⟨by simp,List.nodup_nil,by simp⟩
 | n :: r,A,h=>by
   rw [wrongGo] at h
   by_cases h1:inL R n=false
   ·rw [if_pos h1] at h;exact absurd h (by decide)
   ·rw [if_neg h1] at h
    by_cases h2:inL A n=true
    ·rw [if_pos h2] at h;exact absurd h (by decide)
    ·rw [if_neg h2] at h
     obtain ⟨a,b,c⟩:=wrongGo_parts R r (A++[n]) h
     have hn:n ∉ A:=fun hm=>h2 (inL_iff.2 hm)
     have hR:n ∈ R:=inL_iff.1 (by simpa using h1)
     refine ⟨fun s hs=>?_,List.nodup_cons.2 ⟨fun hm=>c n hm (by simp),b⟩,fun s hs=>?_⟩
     ·rcases List.mem_cons.1 hs with rfl | hs
      ·exact hR
      ·exact a s hs
     ·rcases List.mem_cons.1 hs with rfl | hs
      ·exact hn
      ·exact fun hm=>c s hs (List.mem_append_left _ hm)
theorem nodup_len:∀ (l R:List ByteArray),l.Nodup→(∀ s ∈ l,s ∈ R)→l.length≤R.length
 | [],R,_,_=>Nat.zero_le _
 | n :: r,R,hd,hs=>by
   obtain ⟨h1,h2⟩:=List.nodup_cons.1 hd
   obtain ⟨R1,R2,rfl⟩:=List.append_of_mem (hs n List.mem_cons_self)
   have:=nodup_len r (R1++R2) h2 fun s hm=>by
    have h3:=hs s (List.mem_cons_of_mem _ hm)
    rcases List.mem_append.1 h3 with h3 | h3
    ·exact List.mem_append_left _ h3
    ·rcases List.mem_cons.1 h3 with rfl | h3
     ·exact absurd hm h1
     ·exact List.mem_append_right _ h3
   simp only [List.length_append,List.length_cons] at this ⊢
   omega
theorem wrongV_parts {x:MapgP} {R:List ByteArray} (h:wrongV x R=0):1≤x.paths.length∧x.paths.length≤32∧(∀ s ∈ x.paths,pathB s=true)∧1≤x.repos.length∧x.repos.length≤R.length∧(∀ s ∈ x.repos,s ∈ R)∧1≤x.thr∧x.thr≤x.repos.length∧wrongPathsV x.paths=0∧wrongReposV x.repos R=0:=by
 unfold wrongV at h
 by_cases h1:wrongPathsV x.paths≠0
 ·rw [if_pos h1] at h;exact absurd h h1
 ·rw [if_neg h1] at h
  by_cases h2:wrongReposV x.repos R≠0
  ·rw [if_pos h2] at h;exact absurd h h2
  ·rw [if_neg h2] at h
   have h1:wrongPathsV x.paths=0:=Classical.not_not.1 h1
   have h2:wrongReposV x.repos R=0:=Classical.not_not.1 h2
   by_cases h3:x.thr<1∨(x.repos.length:Int)<x.thr
   ·rw [if_pos h3] at h;exact absurd h (by decide)
   ·have hp:=h1
    have hr:=h2
    unfold wrongPathsV at hp
    unfold wrongReposV at hr
    by_cases p1:32<x.paths.length
    ·rw [if_pos p1] at hp;exact absurd hp (by decide)
    ·rw [if_neg p1] at hp
     by_cases p2:x.paths=[]
     ·rw [if_pos p2] at hp;exact absurd hp (by decide)
     ·rw [if_neg p2] at hp
      by_cases p3:x.paths.all pathB=true
      ·by_cases r1:x.repos=[]
       ·rw [if_pos r1] at hr;exact absurd hr (by decide)
       ·rw [if_neg r1] at hr
        obtain ⟨a,b,-⟩:=wrongGo_parts R _ _ hr
        have:=nodup_len _ _ b a
        have l1:=List.length_pos_iff.2 p2
        have l2:=List.length_pos_iff.2 r1
        exact ⟨l1,by omega,List.all_eq_true.1 p3,l2,this,a,by omega,by omega,h1,h2⟩
      ·rw [if_neg p3] at hp;exact absurd hp (by decide)
/-! Names and patterns are texts that may be written. -/
theorem lenGo_low:∀ (l:List UInt8) (f:Nat),(∀ c ∈ l,c.toNat<128)→lenGo l f=true
 | _,0,_=>rfl
 | [],f+1,_=>by rw [lenGo,if_pos rfl]
 | c :: r,f+1,h=>by
   have hc:=h c List.mem_cons_self
   have hn:nextP (c :: r)=((c.toNat:Int),1,0):=by rw [nextP,if_pos hc]
   rw [lenGo,if_neg (by simp),hn,if_pos rfl]
   exact lenGo_low r f fun d hd=>h d (List.mem_cons_of_mem _ hd)
theorem nameC_low {c:UInt8} (h:nameC c=true):c.toNat<128:=by
 unfold nameC at h
 simp only [Bool.or_eq_true,Bool.and_eq_true,decide_eq_true_eq] at h
 omega
theorem role_writ {s:ByteArray} (h:roleB s=true):writ s=true∧s.size≤64:=by
 unfold roleB at h
 rw [Bool.and_eq_true,Bool.and_eq_true,Bool.and_eq_true,decide_eq_true_eq,decide_eq_true_eq] at h
 obtain ⟨⟨⟨-,h2⟩,-⟩,h4⟩:=h
 refine ⟨?_,h2⟩
 unfold writ
 rw [Bool.and_eq_true,decide_eq_true_eq,utfOK_len]
 exact ⟨by omega,lenGo_low _ _ fun c hc=>nameC_low (List.all_eq_true.1 h4 c hc)⟩
theorem path_writ {s:ByteArray} (h:pathB s=true):writ s=true∧s.size≤256:=by
 unfold pathB at h
 rw [Bool.and_eq_true,Bool.and_eq_true,Bool.and_eq_true,decide_eq_true_eq,decide_eq_true_eq] at h
 obtain ⟨⟨⟨-,h2⟩,-⟩,h4⟩:=h
 refine ⟨?_,h2⟩
 unfold writ
 rw [Bool.and_eq_true,decide_eq_true_eq]
 exact ⟨by omega,h4⟩
/-! The object may be. -/
theorem no_bytes:(⟨#[]⟩:ByteArray).toList=[]:=by rw [toList_data]
theorem proper_listJ (l:List JV):properB (.mk 4 0 ⟨#[]⟩ [] l)=true:=by
 rw [properB,no_bytes];simp
theorem proper_textJ (s:ByteArray):properB (textJ s)=writ s:=by
 rw [textJ,properB];simp
theorem proper_boolJ (b:Bool):properB (boolJ b)=true:=by
 cases b <;> (rw [boolJ,properB,no_bytes];simp)
theorem proper_numJ (n:Int):properB (numJ n)=true:=by
 rw [numJ,properB,no_bytes];simp
theorem proper_objJ (ns:List ByteArray) (l:List JV):properB (.mk 5 0 ⟨#[]⟩ ns l)=(decide (ns.length=l.length) && ascB ns && ns.all writ):=by
 rw [properB,no_bytes];simp
theorem goodVs_ofC:∀ {l:List JV},(∀ x ∈ l,goodV x=true)→goodVs l=true
 | [],_=>by rw [goodVs]
 | x :: r,h=>by rw [goodVs,h x List.mem_cons_self,goodVs_ofC (fun y hy=>h y (List.mem_cons_of_mem _ hy))];rfl
theorem countL_le {c:Nat}:∀ {l:List JV},(∀ x ∈ l,countV x≤c)→countL l≤l.length*c
 | [],_=>by rw [countL];exact Nat.zero_le _
 | x :: r,h=>by
   have h1:=h x List.mem_cons_self
   have h2:=countL_le (l:=r) (fun y hy=>h y (List.mem_cons_of_mem _ hy))
   rw [countL,List.length_cons,Nat.add_mul]
   omega
theorem depthL_leC {d:Nat}:∀ {l:List JV},(∀ x ∈ l,depthV x≤d)→depthL l≤d
 | [],_=>by rw [depthL];exact Nat.zero_le _
 | x :: r,h=>by
   have h1:=h x List.mem_cons_self
   have h2:=depthL_leC (l:=r) (fun y hy=>h y (List.mem_cons_of_mem _ hy))
   rw [depthL]
   omega
theorem textJ_may {s:ByteArray} (h:writ s=true):goodV (textJ s)=true∧depthV (textJ s)≤0∧countV (textJ s)≤1:=by
 refine ⟨?_,?_,?_⟩
 ·rw [goodV_eq,proper_textJ,h]
  rfl
 ·rw [depthV_eq]
  exact Nat.le_refl _
 ·rw [countV_eq]
  exact Nat.le_refl _
theorem leaf_may {V:JV} (h:properB V=true) (h4:V.k≠4) (h5:V.k≠5):goodV V=true∧depthV V≤0∧countV V≤1:=by
 have hi:=proper_leaf h h4 h5
 have hk:¬ (V.k=4∨V.k=5):=by omega
 refine ⟨?_,?_,?_⟩
 ·rw [goodV_eq,h,if_neg hk];rfl
 ·rw [depthV_eq,if_neg hk];exact Nat.le_refl _
 ·rw [countV_eq,hi,countL];exact Nat.le_refl _
theorem listJ_may {l:List JV} {d c n:Nat} (h:∀ x ∈ l,goodV x=true∧depthV x≤d∧countV x≤c) (hn:l.length*c≤n):goodV (listJ l)=true∧depthV (listJ l)≤d+1∧countV (listJ l)≤1+n:=by
 refine ⟨?_,?_,?_⟩
 ·rw [goodV_eq,listJ,proper_listJ,Bool.true_and]
  exact goodVs_ofC fun x hx=>(h x hx).1
 ·rw [depthV_eq,listJ]
  exact Nat.succ_le_succ (depthL_leC fun x hx=>(h x hx).2.1)
 ·rw [countV_eq,listJ]
  exact Nat.add_le_add_left (Nat.le_trans (countL_le fun x hx=>(h x hx).2.2) hn) 1
theorem objV_may {ns:List ByteArray} {l:List JV} {d c n:Nat} (hl:ns.length=l.length) (ha:ascB ns=true) (hw:ns.all writ=true) (h:∀ x ∈ l,goodV x=true∧depthV x≤d∧countV x≤c) (hn:l.length*c≤n):goodV (.mk 5 0 ⟨#[]⟩ ns l)=true∧depthV (.mk 5 0 ⟨#[]⟩ ns l)≤d+1∧countV (.mk 5 0 ⟨#[]⟩ ns l)≤1+n:=by
 refine ⟨?_,?_,?_⟩
 ·rw [goodV_eq,proper_objJ,hl,ha,hw,decide_eq_true rfl]
  exact goodVs_ofC fun x hx=>(h x hx).1
 ·rw [depthV_eq]
  exact Nat.succ_le_succ (depthL_leC fun x hx=>(h x hx).2.1)
 ·rw [countV_eq]
  exact Nat.add_le_add_left (Nat.le_trans (countL_le fun x hx=>(h x hx).2.2) hn) 1
theorem textsJ_may {l:List ByteArray} {n:Nat} (h:∀ s ∈ l,writ s=true) (hn:l.length≤n):goodV (textsJ l)=true∧depthV (textsJ l)≤1∧countV (textsJ l)≤1+n:=by
 refine listJ_may (d:=0) (c:=1) (fun x hx=>?_) (by rw [List.length_map];omega)
 obtain ⟨s,hs,rfl⟩:=List.mem_map.1 hx
 exact textJ_may (h s hs)
theorem names_mem {l:List RepoP} {s:ByteArray} (h:s ∈ namesR l):∃ r ∈ l,r.1=s:=List.mem_map.1 h
theorem mapgJ_may {x:MapgP} {R:List RepoP} (h:wrongV x (namesR R)=0) (hR:∀ r ∈ R,roleB r.1=true) (h8:R.length≤8):goodV (mapgJ x)=true∧depthV (mapgJ x)≤2∧countV (mapgJ x)≤1+132:=by
 obtain ⟨-,p2,p3,-,p5,p6,-⟩:=wrongV_parts h
 have hl:(namesR R).length≤8:=by rw [namesR,List.length_map];exact h8
 refine objV_may (d:=1) (c:=33) rfl (by kernel_rfl) (by kernel_rfl) (fun y hy=>?_) (by show 4*33≤132;decide)
 simp only [List.mem_cons,List.not_mem_nil,or_false] at hy
 rcases hy with rfl | rfl | rfl | rfl
 ·exact textsJ_may (n:=32) (fun s hs=>(path_writ (p3 s hs)).1) p2
 ·obtain ⟨a,b,c⟩:=textsJ_may (l:=x.repos) (n:=32) (fun s hs=>by
   obtain ⟨r,hr,rfl⟩:=names_mem (p6 s hs)
   exact (role_writ (hR r hr)).1) (by omega)
  exact ⟨a,b,c⟩
 ·obtain ⟨a,b,c⟩:=leaf_may (proper_boolJ x.term) (by show (1:Int)≠4;decide) (by show (1:Int)≠5;decide)
  exact ⟨a,by omega,by omega⟩
 ·obtain ⟨a,b,c⟩:=leaf_may (proper_numJ x.thr) (by show (2:Int)≠4;decide) (by show (2:Int)≠5;decide)
  exact ⟨a,by omega,by omega⟩
theorem chartJ_may {M:MapP} (h:mayM M=true):mayB (chartJ M)=true:=by
 obtain ⟨-,h2,h3,h4,h5,h6⟩:=mayM_parts h
 have hm:goodV (listJ (M.maps.map mapgJ))=true∧depthV (listJ (M.maps.map mapgJ))≤3∧countV (listJ (M.maps.map mapgJ))≤1+2128:=by
  refine listJ_may (d:=2) (c:=133) (fun x hx=>?_) (by rw [List.length_map];omega)
  obtain ⟨y,hy,rfl⟩:=List.mem_map.1 hx
  exact mapgJ_may (h6 y hy) (fun r hr=>(h5 r hr).1) h2
 have hr:goodV (reposJ M.repos)=true∧depthV (reposJ M.repos)≤2∧countV (reposJ M.repos)≤1+72:=by
  refine objV_may (d:=1) (c:=9) (by rw [namesR,List.length_map,List.length_map]) h4 (List.all_eq_true.2 fun s hs=>?_) (fun x hx=>?_) (by rw [List.length_map];omega)
  ·obtain ⟨r,hr,rfl⟩:=names_mem hs
   exact (role_writ (h5 r hr).1).1
  ·obtain ⟨r,hr,rfl⟩:=List.mem_map.1 hx
   exact textsJ_may (n:=8) (h5 r hr).2.2 (h5 r hr).2.1
 obtain ⟨a,b,c⟩:=objV_may (ns:=[tMapping,tRepos]) (l:=[listJ (M.maps.map mapgJ),reposJ M.repos]) (d:=3) (c:=2129) (n:=4258) rfl (by kernel_rfl) (by kernel_rfl) (fun y hy=>by
  simp only [List.mem_cons,List.not_mem_nil,or_false] at hy
  rcases hy with rfl | rfl
  ·exact hm
  ·exact ⟨hr.1,by omega,by omega⟩) (by show 2*2129≤4258;decide)
 exact (mayB_iff _).2 ⟨a,by rw [chartJ];omega,by rw [chartJ];omega⟩
/-! The map of it. -/
theorem map_textJ (l:List ByteArray):(l.map textJ).map JV.t=l:=by
 rw [List.map_map]
 exact (List.map_congr_left fun s _=>rfl).trans (List.map_id l)
theorem textsJ_all (l:List ByteArray):(textsJ l).items.all (fun y=>decide (y.k=3))=true:=by
 refine List.all_eq_true.2 fun y hy=>?_
 obtain ⟨s,-,rfl⟩:=List.mem_map.1 hy
 rfl
theorem textsQ_texts {V:JV} {n:ByteArray} {most:Nat} {A l:List ByteArray} (hg:getN V.names V.items n=some (textsJ l)) (hl:l.length≤most):textsQ V n most (.ok A)=(l,.ok (A++[n])):=by
 have ht:takeQ V n 4 (.ok A)=(some (textsJ l),.ok (A++[n])):=by
  rw [takeQ,hg]
  exact if_pos rfl
 have hlen:¬ most<(textsJ l).items.length:=by
  show ¬ most<(l.map textJ).length
  rw [List.length_map];omega
 rw [textsQ,ht]
 simp only
 rw [if_neg hlen,if_pos (textsJ_all l)]
 exact congrArg (fun z=>(z,PS.ok (A++[n]))) (map_textJ l)
theorem mapping_back {x:MapgP} {R:List ByteArray} (h:wrongV x R=0) (hR:R.length≤8):mappingV (mapgJ x) R=.ok x:=by
 obtain ⟨-,p2,-,-,p5,-,p7,p8,p9,p10⟩:=wrongV_parts h
 have e1:textsQ (mapgJ x) tPaths 32 (pickQ (mapgJ x))=(x.paths,.ok [tPaths]):=textsQ_texts (V:=mapgJ x) (A:=[]) (show getN [tPaths,tRepos,tTerm,tThr] [textsJ x.paths,textsJ x.repos,boolJ x.term,numJ x.thr] tPaths=some (textsJ x.paths) from rfl) p2
 have e2:textsQ (mapgJ x) tRepos 8 (.ok [tPaths])=(x.repos,.ok [tPaths,tRepos]):=textsQ_texts (V:=mapgJ x) (A:=[tPaths]) (show getN [tPaths,tRepos,tTerm,tThr] [textsJ x.paths,textsJ x.repos,boolJ x.term,numJ x.thr] tRepos=some (textsJ x.repos) from rfl) (by omega)
 have e3:boolQ (mapgJ x) tTerm (.ok [tPaths,tRepos])=(x.term,.ok [tPaths,tRepos,tTerm]):=by
  have ht:takeQ (mapgJ x) tTerm 1 (.ok [tPaths,tRepos])=(some (boolJ x.term),.ok [tPaths,tRepos,tTerm]):=by
   rw [takeQ,show getN (mapgJ x).names (mapgJ x).items tTerm=some (boolJ x.term) from rfl]
   exact if_pos rfl
  rw [boolQ,ht]
  show (decide ((if x.term=true then (1:Int) else 0)=1),_)=_
  cases x.term <;> rfl
 have e4:numQ (mapgJ x) tThr 1 x.repos.length (.ok [tPaths,tRepos,tTerm])=(x.thr,.ok [tPaths,tRepos,tTerm,tThr]):=by
  have ht:takeQ (mapgJ x) tThr 2 (.ok [tPaths,tRepos,tTerm])=(some (numJ x.thr),.ok [tPaths,tRepos,tTerm,tThr]):=by
   rw [takeQ,show getN (mapgJ x).names (mapgJ x).items tThr=some (numJ x.thr) from rfl]
   exact if_pos rfl
  rw [numQ,ht]
  simp only
  rw [show (numJ x.thr).n=x.thr from rfl,if_neg (by omega)]
 have e5:doneQ (mapgJ x) (.ok [tPaths,tRepos,tTerm,tThr])=0:=by
  show (if (allAsked (mapgJ x) [tPaths,tRepos,tTerm,tThr])=true then (0:Int) else 11)=0
  exact if_pos (show ([tPaths,tRepos,tTerm,tThr].all fun s=>[tPaths,tRepos,tTerm,tThr].any fun a=>a.data.toList == s.data.toList)=true by decide)
 unfold mappingV
 simp only [e1]
 rw [p9,show failQ 0 (PS.ok [tPaths])=.ok [tPaths] from rfl]
 simp only [e2]
 rw [p10,show failQ 0 (PS.ok [tPaths,tRepos])=.ok [tPaths,tRepos] from rfl]
 simp only [e3,e4,e5]
 rw [if_neg (by simp)]
theorem mapsV_ok {R:List ByteArray} {V:JV} {r:List JV} {m:MapgP} {ms:List MapgP} (e1:mappingV V R=.ok m) (e2:mapsV R r=(ms,0)):mapsV R (V :: r)=(m :: ms,0):=by
 have h:=mapsV_step (R:=R) (l:=V :: r) (j:=0) (y:=V) rfl
 rw [e1,List.drop_succ_cons,List.drop_zero,List.drop_zero] at h
 rw [h,e2]
theorem maps_back {R:List ByteArray} (hR:R.length≤8) (l:List MapgP) (h:∀ x ∈ l,wrongV x R=0):mapsV R (l.map mapgJ)=(l,0):=by
 induction l with
 | nil=>rfl
 | cons x r ih=>exact mapsV_ok (mapping_back (h x List.mem_cons_self) hR) (ih fun y hy=>h y (List.mem_cons_of_mem _ hy))
theorem repos_back:∀ (l:List RepoP),(∀ r ∈ l,roleB r.1=true∧r.2.length≤8)→repoGo (namesR l) (l.map fun r=>textsJ r.2)=(l,0)
 | [],_=>rfl
 | r :: l,h=>by
   obtain ⟨h1,h2⟩:=h r List.mem_cons_self
   have ih:=repos_back l (fun y hy=>h y (List.mem_cons_of_mem _ hy))
   rw [namesR] at ih ⊢
   rw [List.map_cons,List.map_cons,repoGo,ih,if_neg (by rw [h1];decide),if_neg (by show ¬ (4:Int)≠4;decide),if_neg (by show ¬ 8<(r.2.map textJ).length;rw [List.length_map];omega),if_neg (by rw [textsJ_all];decide),if_pos rfl]
   exact congrArg (fun z=>((r.1,z) :: l,(0:Int))) (map_textJ r.2)
theorem chart_back {M:MapP} (h:mayM M=true):chartV (chartJ M)=.ok M:=by
 obtain ⟨h1,h2,h3,-,h5,h6⟩:=mayM_parts h
 have hR:(namesR M.repos).length≤8:=by rw [namesR,List.length_map];exact h2
 have e1:objQ (chartJ M) tRepos 8 (pickQ (chartJ M))=(reposJ M.repos,.ok [tRepos]):=by
  have ht:takeQ (chartJ M) tRepos 5 (pickQ (chartJ M))=(some (reposJ M.repos),.ok [tRepos]):=by
   rw [show pickQ (chartJ M)=.ok [] from rfl,takeQ,show getN (chartJ M).names (chartJ M).items tRepos=some (reposJ M.repos) from rfl]
   exact if_pos rfl
  rw [objQ,ht]
  simp only
  rw [if_neg (by show ¬ 8<(M.repos.map _).length;rw [List.length_map];omega)]
 have e2:reposV (reposJ M.repos)=(M.repos,0):=by
  rw [reposV,if_neg]
  ·exact repos_back _ fun r hr=>⟨(h5 r hr).1,(h5 r hr).2.1⟩
  ·intro e
   have:(M.repos.map fun r=>textsJ r.2).length=0:=by rw [show M.repos.map (fun r=>textsJ r.2)=[] from e];rfl
   rw [List.length_map] at this
   omega
 have e3:listQ (chartJ M) tMapping 16 (.ok [tRepos])=(M.maps.map mapgJ,.ok [tRepos,tMapping]):=by
  have ht:takeQ (chartJ M) tMapping 4 (.ok [tRepos])=(some (listJ (M.maps.map mapgJ)),.ok [tRepos,tMapping]):=by
   rw [takeQ,show getN (chartJ M).names (chartJ M).items tMapping=some (listJ (M.maps.map mapgJ)) from rfl]
   exact if_pos rfl
  rw [listQ,ht]
  simp only
  rw [if_neg (by show ¬ 16<(M.maps.map mapgJ).length;rw [List.length_map];omega)]
  rfl
 have e4:doneQ (chartJ M) (.ok [tRepos,tMapping])=0:=by
  show (if (allAsked (chartJ M) [tRepos,tMapping])=true then (0:Int) else 11)=0
  exact if_pos (show ([tMapping,tRepos].all fun s=>[tRepos,tMapping].any fun a=>a.data.toList == s.data.toList)=true by decide)
 unfold chartV
 rw [if_neg (by rw [chartJ_may h];decide)]
 simp only [e1,e2]
 rw [show failQ 0 (PS.ok [tRepos])=.ok [tRepos] from rfl]
 simp only [e3,maps_back hR M.maps h6]
 rw [show failQ 0 (PS.ok [tRepos,tMapping])=.ok [tRepos,tMapping] from rfl,e4,if_neg (by simp)]
end
end Go.Proofs.YtchinankclckjaaGreatDoor
