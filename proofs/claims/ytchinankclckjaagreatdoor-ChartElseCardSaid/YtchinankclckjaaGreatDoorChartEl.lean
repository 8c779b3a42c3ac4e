/-
  value.endless and value.Copy of a value in whatever memory: what they tell where rows may bear the mark of a text's memory.
  Objects that are no map's, plainly: one member too few, one too many, a mapping that lacks a member, a mapping of another repository.
-/
import Derived.Test.YtchinankclckjaaGreatDoorChartV
import Derived.Test.YtchinankclckjaaGreatDoorValRead
import Derived.LaidEqlPtr
import Derived.Laws.NewFold
import Derived.Test.YtchinankclckjaaGreatDoorChartMem
import Derived.Test.YtchinankclckjaaGreatDoorChartQ
namespace Go.Proofs.YtchinankclckjaaGreatDoor
set_option maxHeartbeats 4000000
section
set_option maxRecDepth 100000
section
variable {P:Program}
theorem stringish_ok {w:World} {a:Addr} {ca:Array Value} {ta:TypeId} {fa:Nat × Nat} (ha:w.heap[a.block]?=some (.cells ca ta fa)):∃ r,(stringish a).run P w=.ok r w:=by
 unfold stringish
 cases h1:w.frozen? a with
 | true=>exact ⟨true,by simp [h1]⟩
 | false=>exact ⟨w.frozen? ⟨a.block,ca.size,none⟩,by simp [h1,World.shape?,ha]⟩
theorem mayBeOne_ok {w:World} {a b:Addr} {ca cb:Array Value} {ta tb:TypeId} {fa fb:Nat × Nat} (ha:w.heap[a.block]?=some (.cells ca ta fa)) (hb:w.heap[b.block]?=some (.cells cb tb fb)) :
 ∃ r,(mayBeOne a b).run P w=.ok r w:=by
 obtain ⟨r1,h1⟩:=stringish_ok (P:=P) ha
 obtain ⟨r2,h2⟩:=stringish_ok (P:=P) hb
 unfold mayBeOne
 cases r1 <;> cases r2 <;> simp [h1,h2,World.shape?,ha,hb]
theorem sameAddr_some {w:World} {a b:Addr} {ca cb:Array Value} {ta tb:TypeId} {fa fb:Nat × Nat} (ha:w.heap[a.block]?=some (.cells ca ta fa)) (hb:w.heap[b.block]?=some (.cells cb tb fb)) (hf:w.frozen? a=false) :
 ∃ r w2,(sameAddr a b).run P w=.ok r w2∧(w2=w∨w2=w.drew):=by
 obtain ⟨r,hr⟩:=mayBeOne_ok (P:=P) ha hb
 unfold sameAddr
 by_cases hbl:a.block=b.block
 ·exact ⟨a == b,w,by simp [hbl],Or.inl rfl⟩
 ·cases r with
  | false=>exact ⟨false,w,by simp [hbl,hf,noView,viewAt,World.shape?,ha,hb,hr],Or.inl rfl⟩
  | true =>
    have hF:(Question.extern "sameAddr.stringBytes" 2).forced=false:=by decide
    exact ⟨_,w.drew,by simp [hbl,hf,noView,viewAt,World.shape?,ha,hb,hr,hF];rfl,Or.inr rfl⟩
theorem eql_some {w:World} {tp te:TypeId} {j:TypeInfo} {a b:Addr} {ca cb:Array Value} {ta tb:TypeId} {fa fb:Nat × Nat} (hp:P.underlying tp=some (.pointer te)) (hte:P.info? te=some j) (hsz:j.size≠0)
 (ha:w.heap[a.block]?=some (.cells ca ta fa)) (hb:w.heap[b.block]?=some (.cells cb tb fb)) (hf:w.frozen? a=false) :
 ∃ r w2,(binOp .eql tp (.pointer (some a)) (.pointer (some b))).run P w=.ok (.bool r) w2∧(w2=w∨w2=w.drew):=by
 obtain ⟨r,w2,h1,h2⟩:=sameAddr_some (P:=P) ha hb hf
 have h:∀ d:Nat,(Op.equalIn (d+1) tp (.pointer (some a)) (.pointer (some b))).run P w=.ok r w2:=fun d=>by
  simp [Op.equalIn,run_underlying hp,sizeOf,typeInfo,hte,hsz,h1]
 refine ⟨r,w2,?_,h2⟩
 simp only [binOp]
 simp [Op.equal,Op.maxDepth,h 9999]
end
open Go.RowKit
theorem cell_blk {w:World} {p:Addr} {v:Value} (h:w.cell? p=some v):∃ cs t fz,w.heap[p.block]?=some (.cells cs t fz):=by
 unfold World.cell? at h
 split at h
 ·next h2=>exact ⟨_,_,_,h2⟩
 ·cases h
def LiveN (w:World):Nat→Value→List JV→Prop
 | 0,_,_=>True
 | N+1,v,items=>∀ b o n c,v=.slice (some ⟨b,o,none⟩) n c→∀ (j:Nat) (x:JV),items[j]?=some x→w.frozen? ⟨b,o+j*5,none⟩=false∧∀ xi,w.cell? ⟨b,o+j*5+4,none⟩=some xi→LiveN w N xi x.items
def Live (w:World) (v:Value) (items:List JV):Prop:=∀ N,LiveN w N v items
theorem Live.item {w:World} {b o n c:Nat} {items:List JV} {j:Nat} {x:JV} (h:Live w (.slice (some ⟨b,o,none⟩) n c) items) (hx:items[j]?=some x) :
 w.frozen? ⟨b,o+j*5,none⟩=false∧∀ xi,w.cell? ⟨b,o+j*5+4,none⟩=some xi→Live w xi x.items :=
 ⟨(h 1 b o n c rfl j x hx).1,fun xi hc N=>(h (N+1) b o n c rfl j x hx).2 xi hc⟩
def SomeB (e:Ending):Prop:=∃ b,e=.returned (.bool b)
theorem endless_some (w0:World) (N:Nat):∀ (items:List JV) (v:Value) (lv:Nat) (p:Option Addr) (w:World),SizeOf.sizeOf items<N→ItemsAt w0 v items→Live w0 v items→(p=none∨∃ b o cs t fz,p=some ⟨b,o,none⟩∧w0.heap[b]?=some (.cells cs t fz))→Below w0.heap.size w0 w→1≤lv→lv+countL items≤4000000000000000000 →
 Calls Tryz.prog 64 #[v,.int .i64 lv,.pointer p,.bool false] w fun e w'=>SomeB e∧Below w.heap.size w w':=by
 induction N with
 | zero=>intro items v lv p w h;omega
 | succ N ih =>
   intro items v lv p w hN hI hL hA hB0 hl1 hl2
   have HIH:=Lib.hid ih
   clear ih
   obtain ⟨ai,icap,rfl,hI1,-⟩:=hI.parts
   have HIs:=Lib.hid hI
   have HL:=Lib.hid hL
   have HA:=Lib.hid hA
   have HB0:=Lib.hid hB0
   obtain ⟨il,e2⟩:∃ x,items.length=x:=⟨_,rfl⟩
   rw [e2] at hI1 HIs HL ⊢
   have HE2:=Lib.hid e2
   clear hI hL hA e2 hB0
   go_enter Tryz.func64,Tryz.ntmps64
   go_wp2_with fail
   go_loopw [14] (fun i wr=>∃ j:Nat,j≤il∧i=.int .i64 j∧Below w.heap.size w wr) (fun i _=>il - (intOf i).toNat)
   case atStart=>exact ⟨0,by omega,rfl,Below.refl _ _⟩
   case round =>
    obtain ⟨j,hj,rfl,hbr⟩:=hrel
    by_cases hjl:j<il
    ·obtain ⟨x,hx⟩:∃ x,items[j]?=some x:=⟨_,List.getElem?_eq_getElem (by rw [HE2.out];exact hjl)⟩
     obtain ⟨_,_,e',-,hpart⟩:=HIs.out.parts
     rw [HE2.out] at e'
     simp only [Value.slice.injEq] at e'
     obtain ⟨rfl,-,rfl⟩:=e'
     obtain ⟨xb,xo,xn,xi,rfl,x0,x1,x2,x3,x4,q⟩:=hpart j x hx
     obtain ⟨hfr,hlv⟩:=HL.out.item hx
     have hlx:=hlv _ x4
     obtain ⟨r0,r1,r2,r3,r4,q1,q2⟩:=q
     obtain ⟨xi1,xi2,rfl,-,-⟩:=q2.parts
     have hb0r:=below_more HB0.out hbr
     obtain ⟨cs,tt,fz,hbk⟩:=cell_blk x0
     have hlt0:=cell_lt x0
     have hbk':wr.heap[xb]?=some (.cells cs tt fz):=(hb0r.block xb hlt0).trans hbk
     have hfr':wr.frozen? ⟨xb,xo+j*5,none⟩=false:=by
      unfold World.frozen? at hfr ⊢
      rw [hbk']
      rw [hbk] at hfr
      exact hfr
     have hcmp:∃ r w2,(binOp .eql 137 (.pointer (some ⟨xb,xo+j*5,none⟩)) (.pointer p)).run Tryz.prog wr=.ok (.bool r) w2∧Below wr.heap.size wr w2:=by
      rcases HA.out with rfl | ⟨b',o',cs',t',fz',rfl,hb'⟩
      ·exact ⟨false,wr,run_eql_pointer_nil wr _ _ (by kernel_rfl),Below.refl _ _⟩
      ·have hlt':b'<w0.heap.size:=by
        rcases Nat.lt_or_ge b' w0.heap.size with h | h
        ·exact h
        ·rw [Array.getElem?_eq_none h] at hb';cases hb'
       obtain ⟨i,hi,hs⟩:=Option.map_eq_some_iff.1 infoVal1
       obtain ⟨r,w2,h1,h2⟩:=eql_some (P:=Tryz.prog) (w:=wr) (a:=⟨xb,xo+j*5,none⟩) (b:=⟨b',o',none⟩) Tryz.underlying137 hi (by rw [hs];decide) hbk' ((hb0r.block b' hlt').trans hb') hfr'
       refine ⟨r,w2,h1,?_⟩
       rcases h2 with rfl | rfl
       ·exact Below.refl _ _
       ·exact bel_drew (Below.refl _ _)
     obtain ⟨r,w2,hcmp,hb2⟩:=hcmp
     have hbr2:=below_more hbr hb2
     have hb02:=below_more HB0.out hbr2
     have y4:=cell_keep hb02 x4
     have hj0':(0:Int)≤(j:Int):=by omega
     have hj1':(j:Int)<(il:Int):=by omega
     have hs1:=items_lt hx
     have hcm:=countL_mem (List.mem_of_getElem? hx)
     rw [countV_eq] at hcm
     have H1:=Lib.hid (HIH.out x.items _ (lv+1) p w2 (by omega) q2 hlx HA.out hb02 (by omega) (by omega))
     have H2:=Lib.hid (HIH.out x.items _ (lv+1) (some ⟨xb,xo+j*5,none⟩) w2 (by omega) q2 hlx (Or.inr ⟨xb,xo+j*5,cs,tt,fz,rfl,hbk⟩) hb02 (by omega) (by omega))
     rw [show ((lv+1:Nat):Int)=(lv:Int)+1 by omega] at H1 H2
     have HBR2:=Lib.hid hbr2
     clear q1 q2 hpart hlx hlv hfr hfr' hbk' hb0r hbr2 hb02 hb2 x0 x1 x2 x3 x4 hbk hx
     cases r with
     | true =>
       go_wp2_with fail
       go_ret
       exact ⟨⟨true,rfl⟩,HBR2.out⟩
     | false =>
       go_wp2_with fail
       ·refine H2.out.mono ?_
        rintro e w4 ⟨⟨bq,rfl⟩,hb4⟩
        have HB4:=Lib.hid (below_more HBR2.out hb4)
        clear hb4
        cases bq with
        | true =>
          go_wp2_with fail
          go_ret
          exact ⟨⟨true,rfl⟩,HB4.out⟩
        | false =>
          go_wp2_with fail
          exact ⟨⟨j+1,by omega,by go_num,HB4.out⟩,by simp only [intOf];omega⟩
       ·refine H1.out.mono ?_
        rintro e w4 ⟨⟨bq,rfl⟩,hb4⟩
        have HB4:=Lib.hid (below_more HBR2.out hb4)
        clear hb4
        cases bq with
        | true =>
          go_wp2_with fail
          go_ret
          exact ⟨⟨true,rfl⟩,HB4.out⟩
        | false =>
          go_wp2_with fail
          exact ⟨⟨j+1,by omega,by go_num,HB4.out⟩,by simp only [intOf];omega⟩
    ·go_wp2_with fail
     go_ret
     exact ⟨⟨false,rfl⟩,hbr⟩
/-! A value of which items may be nothing. -/
def CutL (l' l:List JV):Prop:=l'.length=l.length∧∀ (i:Nat) (y:JV),l'[i]?=some y→l[i]?=some y∨y=zJV
def CopySome (V:JV) (w:World) (e:Ending) (w':World):Prop:=∃ (x:VC) (l:List JV),e=.returned x.val∧CutL l V.items∧Below w.heap.size w w'∧NewV w.heap.size w' (.mk V.k V.n V.t V.names l) x.val
theorem Copy_some (V:JV) (v:Value) (w:World) (hVp:ValAt w V v) (hlive:∀ c0 c1 c2 c3 vi,v=.agg #[c0,c1,c2,c3,vi]→Live w vi V.items) (hwt:wt V≤1000000000) :
 Calls Tryz.prog 35 #[v] w (CopySome V w):=by
 refine (Copy_gen True V v w hVp (fun c0 c1 c2 c3 b o n c e j x vi hx hi hc W hW hn=>?_) hwt).mono fun e w' h=>?_
 ·have h:=endless_some w _ x.items vi 1 none W (Nat.lt_succ_self _) hi (((hlive _ _ _ _ _ e).item hx).2 _ hc) (Or.inl rfl) hW (by omega) hn
  rw [show ((1:Nat):Int)=1 from rfl] at h
  exact h.mono fun e w' ⟨⟨b,hb⟩,h2⟩=>⟨⟨b,hb,fun _=>trivial⟩,h2⟩
 ·obtain ⟨x,l,h1,hc,hb,hn⟩:=h
  exact ⟨x,l,h1,⟨hc.1,fun i y h=>(hc.2 i y h).imp id And.right⟩,hb,hn⟩
end

section
open Go.RowKit
def Good (d c:Nat) (x:JV):Prop:=goodV x=true∧depthV x≤d∧countV x≤c
theorem repos_good {M:MapP} (h:mayM M=true):Good 3 2129 (reposJ M.repos):=by
 obtain ⟨-,h2,h3,h4,h5,h6⟩:=mayM_parts h
 obtain ⟨a,b,c⟩:=objV_may (ns:=namesR M.repos) (l:=M.repos.map fun r=>textsJ r.2) (d:=1) (c:=9) (n:=72) (by rw [namesR,List.length_map,List.length_map]) h4 (List.all_eq_true.2 fun s hs=>by
  obtain ⟨r,hr,rfl⟩:=names_mem hs
  exact (role_writ (h5 r hr).1).1) (fun x hx=>by
  obtain ⟨r,hr,rfl⟩:=List.mem_map.1 hx
  exact textsJ_may (n:=8) (h5 r hr).2.2 (h5 r hr).2.1) (by rw [List.length_map];omega)
 exact ⟨a,Nat.le_trans b (by decide),Nat.le_trans c (by decide)⟩
theorem list_good16 {L:List JV} (h:∀ x ∈ L,Good 2 133 x) (hl:L.length≤16):Good 3 2129 (listJ L):=listJ_may (n:=2128) h (by omega)
theorem mapg_good {M:MapP} (h:mayM M=true) {x:MapgP} (hx:wrongV x (namesR M.repos)=0):Good 2 133 (mapgJ x):=by
 obtain ⟨-,h2,h3,h4,h5,h6⟩:=mayM_parts h
 exact mapgJ_may hx (fun r hr=>(h5 r hr).1) h2
theorem maps_good {M:MapP} (h:mayM M=true):∀ x ∈ M.maps.map mapgJ,Good 2 133 x:=fun x hx=>by
 obtain ⟨y,hy,rfl⟩:=List.mem_map.1 hx
 exact mapg_good h ((mayM_parts h).2.2.2.2.2 y hy)
theorem obj_may2 {ns:List ByteArray} {l:List JV} (hl:ns.length=l.length) (h2:l.length≤2) (ha:ascB ns=true) (hw:ns.all writ=true) (h:∀ x ∈ l,Good 3 2129 x):mayB (.mk 5 0 ⟨#[]⟩ ns l)=true:=by
 obtain ⟨a,b,c⟩:=objV_may hl ha hw h (n:=4258) (by omega)
 exact (mayB_iff _).2 ⟨a,by omega,by omega⟩
theorem repos_len {M:MapP} (h:mayM M=true):¬ 8<(reposJ M.repos).items.length:=by
 have:=(mayM_parts h).2.1
 show ¬ 8<(M.repos.map _).length
 rw [List.length_map];omega
theorem reposV_back {M:MapP} (h:mayM M=true):reposV (reposJ M.repos)=(M.repos,0):=by
 obtain ⟨h1,h2,h3,-,h5,h6⟩:=mayM_parts h
 rw [reposV,if_neg]
 ·exact repos_back _ fun r hr=>⟨(h5 r hr).1,(h5 r hr).2.1⟩
 ·intro e
  have:(M.repos.map fun r=>textsJ r.2).length=0:=by rw [show M.repos.map (fun r=>textsJ r.2)=[] from e];rfl
  rw [List.length_map] at this
  omega
theorem objQ_of {V:JV} {M:MapP} (hM:mayM M=true) (h5:V.k=5) (hg:getN V.names V.items tRepos=some (reposJ M.repos)):objQ V tRepos 8 (pickQ V)=(reposJ M.repos,.ok [tRepos]):=by
 have ht:takeQ V tRepos 5 (pickQ V)=(some (reposJ M.repos),.ok [tRepos]):=by
  rw [show pickQ V=.ok [] from if_pos h5,takeQ,hg]
  exact if_pos rfl
 rw [objQ,ht]
 simp only
 rw [if_neg (repos_len hM)]
theorem listQ_of {V:JV} {L:List JV} {A:List ByteArray} (hL:L.length≤16) (hg:getN V.names V.items tMapping=some (listJ L)):listQ V tMapping 16 (.ok A)=(L,.ok (A++[tMapping])):=by
 have ht:takeQ V tMapping 4 (.ok A)=(some (listJ L),.ok (A++[tMapping])):=by
  rw [takeQ,hg]
  exact if_pos rfl
 rw [listQ,ht]
 simp only
 rw [if_neg (show ¬ 16<(listJ L).items.length from fun h=>by have h':16<L.length:=h;omega)]
 rfl
theorem half1_bad {M:MapP} (hM:mayM M=true):chartV (.mk 5 0 ⟨#[]⟩ [tMapping] [listJ (M.maps.map mapgJ)])=.bad 6:=by
 have hm:mayB (.mk 5 0 ⟨#[]⟩ [tMapping] [listJ (M.maps.map mapgJ)])=true:=obj_may2 rfl (by simp) (by kernel_rfl) (by kernel_rfl) (fun x hx=>by
  rw [List.mem_singleton.1 hx]
  exact list_good16 (maps_good hM) (by rw [List.length_map];exact (mayM_parts hM).2.2.1))
 rw [chartV,if_neg (by rw [hm];decide)]
 rfl
theorem half2_bad {M:MapP} (hM:mayM M=true):chartV (.mk 5 0 ⟨#[]⟩ [tRepos] [reposJ M.repos])=.bad 6:=by
 have hm:mayB (.mk 5 0 ⟨#[]⟩ [tRepos] [reposJ M.repos])=true:=obj_may2 rfl (by simp) (by kernel_rfl) (by kernel_rfl) (fun x hx=>by
  rw [List.mem_singleton.1 hx]
  exact repos_good hM)
 rw [chartV,if_neg (by rw [hm];decide)]
 simp only [objQ_of hM (V:=.mk 5 0 ⟨#[]⟩ [tRepos] [reposJ M.repos]) rfl rfl,reposV_back hM]
 rfl
theorem more_bad {M:MapP} {V:JV} (hM:mayM M=true) (hm:mayB V=true) (h5:V.k=5) (hr:getN V.names V.items tRepos=some (reposJ M.repos)) (hg:getN V.names V.items tMapping=some (listJ (M.maps.map mapgJ))) {s:ByteArray} (hs:s ∈ V.names) (h1:s≠tMapping) (h2:s≠tRepos):chartV V=.bad 11:=by
 obtain ⟨-,q2,q3,-,q5,q6⟩:=mayM_parts hM
 have hR:(namesR M.repos).length≤8:=by rw [namesR,List.length_map];exact q2
 rw [chartV,if_neg (by rw [hm];decide)]
 simp only [objQ_of hM h5 hr,reposV_back hM,failQ,if_true,listQ_of (V:=V) (A:=[tRepos]) (by rw [List.length_map];exact q3) hg,maps_back hR M.maps q6]
 have hd:doneQ V (.ok ([tRepos]++[tMapping]))=11:=by
  rw [doneQ,if_neg]
  intro ha
  have h3:=List.all_eq_true.1 ha s hs
  obtain ⟨a,ha1,ha2⟩:=List.any_eq_true.1 h3
  have he:a.data.toList=s.data.toList:=beq_iff_eq.1 ha2
  have he2:a=s:=by cases a;cases s;simp_all
  rcases List.mem_append.1 ha1 with h4 | h4 <;> rw [List.mem_singleton] at h4
  ·exact h2 (he2.symm.trans h4)
  ·exact h1 (he2.symm.trans h4)
 rw [hd,if_pos (by decide)]
theorem mapsV_bad {R:List ByteArray} (hR:R.length≤8) {b:JV} {e:Int} (hb:mappingV b R=.bad e):∀ (l:List MapgP),(∀ x ∈ l,wrongV x R=0)→(mapsV R (l.map mapgJ++[b])).2=e
 | [],_=>by
   have h:=mapsV_step (R:=R) (l:=[b]) (j:=0) (y:=b) rfl
   rw [hb] at h
   exact congrArg Prod.snd h
 | x :: l,h=>by
   have hs:=mapsV_step (R:=R) (l:=mapgJ x :: (l.map mapgJ++[b])) (j:=0) (y:=mapgJ x) rfl
   rw [mapping_back (h x List.mem_cons_self) hR,List.drop_succ_cons,List.drop_zero,List.drop_zero] at hs
   rw [List.map_cons,List.cons_append,hs]
   exact mapsV_bad hR hb l fun y hy=>h y (List.mem_cons_of_mem _ hy)
def sayJ (L:List JV) (R:List RepoP):JV:=.mk 5 0 ⟨#[]⟩ [tMapping,tRepos] [listJ L,reposJ R]
theorem say_bad {M:MapP} (hM:mayM M=true) {l:List MapgP} (hl:∀ x ∈ l,wrongV x (namesR M.repos)=0) (hn:l.length+1≤16) {b:JV} {e:Int} (hb:mappingV b (namesR M.repos)=.bad e) (he:e≠0) (hg:Good 2 133 b):chartV (sayJ (l.map mapgJ++[b]) M.repos)=.bad e:=by
 obtain ⟨-,q2,q3,-,q5,q6⟩:=mayM_parts hM
 have hR:(namesR M.repos).length≤8:=by rw [namesR,List.length_map];exact q2
 have hlen:(l.map mapgJ++[b]).length≤16:=by rw [List.length_append,List.length_map];exact hn
 have hm:mayB (sayJ (l.map mapgJ++[b]) M.repos)=true:=obj_may2 rfl (Nat.le_refl 2) (by kernel_rfl) (by kernel_rfl) (fun x hx=>by
  simp only [List.mem_cons,List.not_mem_nil,or_false] at hx
  rcases hx with rfl | rfl
  ·refine list_good16 (fun y hy=>?_) hlen
   rcases List.mem_append.1 hy with hy | hy
   ·obtain ⟨z,hz,rfl⟩:=List.mem_map.1 hy
    exact mapg_good hM (hl z hz)
   ·rw [List.mem_singleton.1 hy];exact hg
  ·exact repos_good hM)
 rw [chartV,if_neg (by rw [hm];decide)]
 simp only [objQ_of hM (V:=sayJ (l.map mapgJ++[b]) M.repos) rfl rfl,reposV_back hM,failQ,if_true,listQ_of (V:=sayJ (l.map mapgJ++[b]) M.repos) (A:=[tRepos]) hlen rfl,mapsV_bad hR hb l hl]
 have hf:(if e=0 then PS.ok ([tRepos]++[tMapping]) else PS.bad e)=.bad e:=if_neg he
 rw [hf]
 exact if_pos he
theorem say_ok {M:MapP} (hM:mayM M=true) {l:List MapgP} (hl:∀ x ∈ l,wrongV x (namesR M.repos)=0) (hn:l.length+1≤16) {y:MapgP} (hy:wrongV y (namesR M.repos)=0):chartV (sayJ (l.map mapgJ++[mapgJ y]) M.repos)=.ok ⟨M.repos,l++[y]⟩:=by
 have h2:mayM ⟨M.repos,l++[y]⟩=true:=by
  have h:=hM
  unfold mayM at h ⊢
  simp only [Bool.and_eq_true,decide_eq_true_eq,List.all_eq_true] at h ⊢
  obtain ⟨⟨⟨⟨⟨a,b⟩,-⟩,d⟩,e⟩,-⟩:=h
  refine ⟨⟨⟨⟨⟨a,b⟩,by rw [List.length_append];exact hn⟩,d⟩,e⟩,fun x hx=>?_⟩
  rcases List.mem_append.1 hx with hx | hx
  ·exact hl x hx
  ·rw [List.mem_singleton.1 hx];exact hy
 have h3:=chart_back h2
 rwa [chartJ,List.map_append] at h3
/-! A mapping that lacks a member. -/
def brokJ (x:MapgP) (k:Nat):JV:=.mk 5 0 ⟨#[]⟩ ([tPaths,tRepos,tTerm,tThr].eraseIdx k) ([textsJ x.paths,textsJ x.repos,boolJ x.term,numJ x.thr].eraseIdx k)
theorem brok_good {M:MapP} (hM:mayM M=true) {x:MapgP} (hx:wrongV x (namesR M.repos)=0) {k:Nat} (hk:k<4):Good 2 133 (brokJ x k):=by
 obtain ⟨-,p2,p3,-,p5,p6,-⟩:=wrongV_parts hx
 obtain ⟨-,q2,q3,-,q5,q6⟩:=mayM_parts hM
 have hl:(namesR M.repos).length≤8:=by rw [namesR,List.length_map];exact q2
 have h4:k=0∨k=1∨k=2∨k=3:=by omega
 have hall:∀ y ∈ [textsJ x.paths,textsJ x.repos,boolJ x.term,numJ x.thr],goodV y=true∧depthV y≤1∧countV y≤33:=fun y hy=>by
  simp only [List.mem_cons,List.not_mem_nil,or_false] at hy
  rcases hy with rfl | rfl | rfl | rfl
  ·exact textsJ_may (n:=32) (fun s hs=>(path_writ (p3 s hs)).1) p2
  ·exact textsJ_may (l:=x.repos) (n:=32) (fun s hs=>by
    obtain ⟨r,hr,rfl⟩:=names_mem (p6 s hs)
    exact (role_writ (q5 r hr).1).1) (by omega)
  ·obtain ⟨a,b,c⟩:=leaf_may (proper_boolJ x.term) (by show (1:Int)≠4;decide) (by show (1:Int)≠5;decide)
   exact ⟨a,by omega,by omega⟩
  ·obtain ⟨a,b,c⟩:=leaf_may (proper_numJ x.thr) (by show (2:Int)≠4;decide) (by show (2:Int)≠5;decide)
   exact ⟨a,by omega,by omega⟩
 have h3:∀ y ∈ [textsJ x.paths,textsJ x.repos,boolJ x.term,numJ x.thr].eraseIdx k,goodV y=true∧depthV y≤1∧countV y≤33:=fun y hy=>hall y (List.mem_of_mem_eraseIdx hy)
 rcases h4 with rfl | rfl | rfl | rfl <;> exact objV_may (n:=132) rfl (by kernel_rfl) (by kernel_rfl) h3 (by show 3*33≤132;decide)
theorem brok_bad {x:MapgP} {R:List ByteArray} (h:wrongV x R=0) (hR:R.length≤8) {k:Nat} (hk:k<4):mappingV (brokJ x k) R=.bad 6:=by
 obtain ⟨-,p2,-,-,p5,-,p7,p8,p9,p10⟩:=wrongV_parts h
 have h4:k=0∨k=1∨k=2∨k=3:=by omega
 rcases h4 with rfl | rfl | rfl | rfl
 ·rfl
 ·have e1:textsQ (brokJ x 1) tPaths 32 (pickQ (brokJ x 1))=(x.paths,.ok [tPaths]):=textsQ_texts (V:=brokJ x 1) (A:=[]) (show getN [tPaths,tTerm,tThr] [textsJ x.paths,boolJ x.term,numJ x.thr] tPaths=some (textsJ x.paths) from rfl) p2
  unfold mappingV
  simp only [e1,p9]
  rfl
 ·have e1:textsQ (brokJ x 2) tPaths 32 (pickQ (brokJ x 2))=(x.paths,.ok [tPaths]):=textsQ_texts (V:=brokJ x 2) (A:=[]) (show getN [tPaths,tRepos,tThr] [textsJ x.paths,textsJ x.repos,numJ x.thr] tPaths=some (textsJ x.paths) from rfl) p2
  have e2:textsQ (brokJ x 2) tRepos 8 (.ok [tPaths])=(x.repos,.ok [tPaths,tRepos]):=textsQ_texts (V:=brokJ x 2) (A:=[tPaths]) (show getN [tPaths,tRepos,tThr] [textsJ x.paths,textsJ x.repos,numJ x.thr] tRepos=some (textsJ x.repos) from rfl) (by omega)
  unfold mappingV
  simp only [e1,p9,show failQ 0 (PS.ok [tPaths])=.ok [tPaths] from rfl,e2,p10]
  rfl
 ·have e1:textsQ (brokJ x 3) tPaths 32 (pickQ (brokJ x 3))=(x.paths,.ok [tPaths]):=textsQ_texts (V:=brokJ x 3) (A:=[]) (show getN [tPaths,tRepos,tTerm] [textsJ x.paths,textsJ x.repos,boolJ x.term] tPaths=some (textsJ x.paths) from rfl) p2
  have e2:textsQ (brokJ x 3) tRepos 8 (.ok [tPaths])=(x.repos,.ok [tPaths,tRepos]):=textsQ_texts (V:=brokJ x 3) (A:=[tPaths]) (show getN [tPaths,tRepos,tTerm] [textsJ x.paths,textsJ x.repos,boolJ x.term] tRepos=some (textsJ x.repos) from rfl) (by omega)
  unfold mappingV
  simp only [e1,p9,show failQ 0 (PS.ok [tPaths])=.ok [tPaths] from rfl,e2,p10,show failQ 0 (PS.ok [tPaths,tRepos])=.ok [tPaths,tRepos] from rfl]
  rfl
/-! A mapping of one other repository. -/
def otherM (x:MapgP) (s:ByteArray):MapgP:=⟨x.paths,[s],x.term,1⟩
theorem other_ok {x:MapgP} {R:List ByteArray} {s:ByteArray} (h:wrongV x R=0) (hs:s ∈ R):wrongV (otherM x s) R=0:=by
 obtain ⟨-,-,-,-,-,-,-,-,p9,-⟩:=wrongV_parts h
 unfold wrongV
 rw [show (otherM x s).paths=x.paths from rfl,p9,if_neg (by decide)]
 have hr:wrongReposV (otherM x s).repos R=0:=by
  show wrongReposV [s] R=0
  rw [wrongReposV,if_neg (by simp),wrongGo,inL_iff.2 hs,if_neg (by decide),if_neg (by simp [inL]),wrongGo]
 rw [hr,if_neg (by decide)]
 exact if_neg (by show ¬ ((1:Int)<1∨(1:Int)<1);omega)
theorem other_bad {x:MapgP} {R:List ByteArray} {s:ByteArray} (h:wrongV x R=0) (_hR:R.length≤8) (hs:s ∉ R):mappingV (mapgJ (otherM x s)) R=.bad 6:=by
 obtain ⟨-,p2,-,-,p5,-,p7,p8,p9,p10⟩:=wrongV_parts h
 have e1:textsQ (mapgJ (otherM x s)) tPaths 32 (pickQ (mapgJ (otherM x s)))=(x.paths,.ok [tPaths]):=textsQ_texts (V:=mapgJ (otherM x s)) (A:=[]) (show getN [tPaths,tRepos,tTerm,tThr] [textsJ x.paths,textsJ [s],boolJ x.term,numJ 1] tPaths=some (textsJ x.paths) from rfl) p2
 have e2:textsQ (mapgJ (otherM x s)) tRepos 8 (.ok [tPaths])=([s],.ok [tPaths,tRepos]):=textsQ_texts (V:=mapgJ (otherM x s)) (A:=[tPaths]) (show getN [tPaths,tRepos,tTerm,tThr] [textsJ x.paths,textsJ [s],boolJ x.term,numJ 1] tRepos=some (textsJ [s]) from rfl) (by simp)
 have hw:wrongReposV [s] R=6:=by
  have hi:inL R s=false:=by
   cases hq:inL R s with
   | true=>exact absurd (inL_iff.1 hq) hs
   | false=>rfl
  rw [wrongReposV,if_neg (by simp),wrongGo,hi,if_pos rfl]
 unfold mappingV
 simp only [e1,p9,show failQ 0 (PS.ok [tPaths])=.ok [tPaths] from rfl,e2,hw]
 rfl
theorem other_writ {x:MapgP} {s:ByteArray} (h:mayB (mapgJ (otherM x s))=true):writ s=true:=by
 have h1:mayB (textsJ [s])=true:=may_item h (Or.inr rfl) (show textsJ [s] ∈ [textsJ x.paths,textsJ [s],boolJ x.term,numJ 1] by simp)
 have h2:mayB (textJ s)=true:=may_item h1 (Or.inl rfl) (show textJ s ∈ [textJ s] by simp)
 obtain ⟨a,-,-⟩:=(mayB_iff _).1 h2
 rw [goodV_eq,Bool.and_eq_true] at a
 rw [← proper_textJ]
 exact a.1
theorem other_good {M:MapP} (_hM:mayM M=true) {x:MapgP} (hx:wrongV x (namesR M.repos)=0) {s:ByteArray} (hs:writ s=true):Good 2 133 (mapgJ (otherM x s)):=by
 obtain ⟨-,p2,p3,-,p5,p6,-⟩:=wrongV_parts hx
 refine objV_may (d:=1) (c:=33) (n:=132) rfl (by kernel_rfl) (by kernel_rfl) (fun y hy=>?_) (by show 4*33≤132;decide)
 have hy':y ∈ [textsJ x.paths,textsJ [s],boolJ x.term,numJ 1]:=hy
 simp only [List.mem_cons,List.not_mem_nil,or_false] at hy'
 rcases hy' with rfl | rfl | rfl | rfl
 ·exact textsJ_may (n:=32) (fun s hs=>(path_writ (p3 s hs)).1) p2
 ·exact textsJ_may (l:=[s]) (n:=32) (fun t ht=>by rw [List.mem_singleton.1 ht];exact hs) (by simp)
 ·obtain ⟨a,b,c⟩:=leaf_may (proper_boolJ x.term) (by show (1:Int)≠4;decide) (by show (1:Int)≠5;decide)
  exact ⟨a,by omega,by omega⟩
 ·obtain ⟨a,b,c⟩:=leaf_may (proper_numJ 1) (by show (2:Int)≠4;decide) (by show (2:Int)≠5;decide)
  exact ⟨a,by omega,by omega⟩
/-! What ObjectOf makes, where the copies may be cut. -/
theorem cut_may {u V:JV} {l:List JV} (hc:CutL l V.items) (he:u=.mk V.k V.n V.t V.names l) (hm:mayB u=true):u=V:=by
 have hl:l=V.items:=by
  by_cases hk:V.k=4∨V.k=5
  ·refine List.ext_getElem? fun i=>?_
   cases hi:l[i]? with
   | none =>
     rw [List.getElem?_eq_none_iff] at hi
     exact (List.getElem?_eq_none_iff.2 (by rw [← hc.1];exact hi)).symm
   | some y =>
     rcases hc.2 i y hi with e | rfl
     ·exact e.symm
     ·have h1:mayB zJV=true:=may_item hm (by rw [he];exact hk) (by rw [he];exact List.mem_of_getElem? hi)
      exact absurd h1 (by rw [show mayB zJV=false by kernel_rfl];decide)
  ·obtain ⟨a,-,-⟩:=(mayB_iff u).1 hm
   rw [goodV_eq,Bool.and_eq_true] at a
   have h0:=proper_leaf a.1 (fun e=>hk (Or.inl (by rw [he] at e;exact e))) (fun e=>hk (Or.inr (by rw [he] at e;exact e)))
   have h1:l=[]:=by rw [he] at h0;exact h0
   have h2:=hc.1
   rw [h1] at h2 ⊢
   exact (List.eq_nil_of_length_eq_zero h2.symm).symm
 rw [he,hl]
 exact (JV.eta V).symm
def CutE (y:XM) (u:JV):Prop:=∃ l,CutL l y.V.items∧u=.mk y.V.k y.V.n y.V.t y.V.names l
theorem out_may {ys:List XM} {us:List JV} (h:OutE CutE ys us) (hm:mayB (.mk 5 0 ⟨#[]⟩ (ys.map XM.name) us)=true):us=ys.map XM.V:=by
 refine List.ext_getElem? fun i=>?_
 rw [List.getElem?_map]
 cases hy:ys[i]? with
 | none =>
   rw [List.getElem?_eq_none_iff] at hy
   exact List.getElem?_eq_none_iff.2 (by rw [h.1];exact hy)
 | some y =>
   obtain ⟨u,hu,l,hc,he⟩:=h.2 i y hy
   rw [hu]
   exact congrArg some (cut_may hc he (may_item hm (Or.inr rfl) (List.mem_of_getElem? hu)))
theorem getN_xm:∀ {ys:List XM} {y:XM},(ys.map XM.name).Nodup→y ∈ ys→getN (ys.map XM.name) (ys.map XM.V) y.name=some y.V
 | [],_,_,h=>by cases h
 | x :: ys,y,hd,h=>by
   rw [List.map_cons,List.nodup_cons] at hd
   rw [List.map_cons,List.map_cons,getN]
   rcases List.mem_cons.1 h with rfl | h
   ·rw [if_pos rfl]
   ·rw [if_neg]
    ·exact getN_xm hd.2 h
    ·intro e
     have e2:x.name=y.name:=by
      cases hx:x.name;cases hy:y.name
      rw [hx,hy] at e
      simp_all
     exact hd.1 (by rw [e2];exact List.mem_map.2 ⟨y,h,rfl⟩)
theorem wide_bad {M:MapP} (hM:mayM M=true) {c1 c2 c3:VC} {s:ByteArray} {X:JV} {ys:List XM} {us:List JV} (hp:ys.Perm [⟨tMapping,c1,listJ (M.maps.map mapgJ)⟩,⟨tRepos,c2,reposJ M.repos⟩,⟨s,c3,X⟩]) (ho:OutE CutE ys us) (hm:mayB (.mk 5 0 ⟨#[]⟩ (ys.map XM.name) us)=true):chartV (.mk 5 0 ⟨#[]⟩ (ys.map XM.name) us)=.bad 11:=by
 have hu:=out_may ho hm
 subst hu
 obtain ⟨-,hasc⟩:=may_fit hm rfl
 have hnd:(ys.map XM.name).Nodup:=(asc_pairsX hasc).imp fun h e=>by
  rw [e,bl_irrefl] at h
  cases h
 have hnd3:[tMapping,tRepos,s].Nodup:=(hp.map XM.name).nodup_iff.1 hnd
 rw [List.nodup_cons,List.nodup_cons] at hnd3
 obtain ⟨n1,n2,-⟩:=hnd3
 simp only [List.mem_cons,List.not_mem_nil,or_false,not_or] at n1 n2
 refine more_bad hM hm rfl (getN_xm (y:=⟨tRepos,c2,reposJ M.repos⟩) hnd (hp.mem_iff.2 (by simp))) (getN_xm (y:=⟨tMapping,c1,listJ (M.maps.map mapgJ)⟩) hnd (hp.mem_iff.2 (by simp))) (s:=s) ?_ (fun e=>n1.2 e.symm) (fun e=>n2 e.symm)
 exact List.mem_map.2 ⟨⟨s,c3,X⟩,hp.mem_iff.2 (by simp),rfl⟩
end
end Go.Proofs.YtchinankclckjaaGreatDoor
