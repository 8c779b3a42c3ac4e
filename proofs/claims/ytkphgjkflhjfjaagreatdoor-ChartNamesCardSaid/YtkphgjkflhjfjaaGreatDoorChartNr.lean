/-
  What stands in the slots of a region that is walked by what each operation yields.
  What the operations of ChartNames' row of maps yield.
-/
import Derived.Test.YtkphgjkflhjfjaaGreatDoorChartVal
import Derived.Test.YtkphgjkflhjfjaaGreatDoorChartNq
import Derived.Test.YtkphgjkflhjfjaaGreatDoorChartRd
import Derived.Test.YtkphgjkflhjfjaaGreatDoorChartAw
namespace Go.Proofs.YtkphgjkflhjfjaaGreatDoor
section
open Go.RowKit
def lastPut (s:Nat):List (Nat × Option Tmp) → Option Nat → Option Nat
 | [],r => r
 | p :: ps,r => lastPut s ps (if p.2 = some s then some p.1 else r)
theorem putsOf_get_from {vs:Nat → Value} {s:Nat}:∀ (ps:List (Nat × Option Tmp)) (a:Act) (r:Option Nat),s < a.tmps.size → (∀ k,r = some k → a.tmps[s]? = some (vs k)) → ∀ k,lastPut s ps r = some k → (putsOf a ps vs).tmps[s]? = some (vs k)
 | [],_,_,_,h,k,hk => h k hk
 | (i,none) :: ps,a,r,hs,h,k,hk => putsOf_get_from ps a r hs h k (by simpa [lastPut] using hk)
 | (i,some d) :: ps,a,r,hs,h,k,hk => by
   have e:putsOf a ((i,some d) :: ps) vs = putsOf (a.put (some d) (vs i)) ps vs:=rfl
   rw [e]
   rw [lastPut] at hk
   refine putsOf_get_from ps _ _ (by simpa [Act.put] using hs) (fun k' hk' => ?_) k hk
   by_cases ed:d = s
   ·subst ed
    rw [if_pos rfl] at hk'
    cases hk'
    simp [Act.put,hs]
   ·rw [if_neg (fun e2 => ed (Option.some.inj e2))] at hk'
    rw [← h k' hk']
    simp [Act.put,Array.getElem?_setIfInBounds_ne ed]
theorem putsOf_get {vs:Nat → Value} {ps:List (Nat × Option Tmp)} {a:Act} (s k:Nat) (h:lastPut s ps none = some k) {n:Nat} (hn:a.tmps.size = n) (hs:decide (s < n) = true):(putsOf a ps vs).tmps[s]? = some (vs k) :=
 putsOf_get_from ps a none (by rw [hn]; exact of_decide_eq_true hs) (fun _ h => by cases h) k h
theorem putsOf_old {vs:Nat → Value} {s:Nat}:∀ (ps:List (Nat × Option Tmp)) (a:Act),(ps.all fun p => decide (p.2 ≠ some s)) = true → (putsOf a ps vs).tmps[s]? = a.tmps[s]?
 | [],_,_ => rfl
 | (i,none) :: ps,a,h => putsOf_old ps a (by simpa using h)
 | (i,some d) :: ps,a,h => by
   have e:putsOf a ((i,some d) :: ps) vs = putsOf (a.put (some d) (vs i)) ps vs:=rfl
   rw [List.all_cons,Bool.and_eq_true,decide_eq_true_eq] at h
   rw [e,putsOf_old ps _ h.2]
   have hne:d ≠ s:=fun e2 => h.1 (by rw [e2])
   simp [Act.put,Array.getElem?_setIfInBounds_ne hne]
theorem wpAny_name {P:Program} {md:Region.Mode} {ops:Array Oper} {Q:Exit → Act → World → Prop} {f:Nat} {L:Array Bool} {a:Act} {w:World} (h:∀ A0,A0 = a → wpAny P md ops Q f L A0 w):wpAny P md ops Q f L a w:=h a rfl
end

section
open Go.RowKit
structure MP where
 p:Value → World → Prop
 k:∀ v w w',p v w → Below w.heap.size w w' → p v w'
def mEq (x:Value):MP:=⟨fun v _ => v = x,fun _ _ _ h _ => h⟩
def mAny:MP:=⟨fun _ _ => True,fun _ _ _ h _ => h⟩
def mStrs (n:Nat) (l:List ByteArray):MP:=⟨fun v w => ∃ b,v = .slice (some ⟨b,0,none⟩) n n ∧ StrsAt w (.slice (some ⟨b,0,none⟩) n n) l,fun _ _ _ ⟨b,e,h⟩ hb => ⟨b,e,h.keep hb⟩⟩
def mRepo (s:ByteArray) (n:Nat) (l:List ByteArray):MP:=⟨fun v w => ∃ b,v = .agg #[.string s,.slice (some ⟨b,0,none⟩) n n] ∧ StrsAt w (.slice (some ⟨b,0,none⟩) n n) l,fun _ _ _ ⟨b,e,h⟩ hb => ⟨b,e,h.keep hb⟩⟩
def mRepos (n:Nat) (l:List RepoP):MP:=⟨fun v w => ∃ b,v = .slice (some ⟨b,0,none⟩) n n ∧ ReposAt w (.slice (some ⟨b,0,none⟩) n n) l,fun _ _ _ ⟨b,e,h⟩ hb => ⟨b,e,h.keep hb⟩⟩
def mMapg (n m:Nat) (t:Int) (x:MapgP):MP:=⟨fun v w => ∃ b c,v = .agg #[.slice (some ⟨b,0,none⟩) n n,.slice (some ⟨c,0,none⟩) m m,.bool false,.int .i64 t] ∧ MapgAt w (.agg #[.slice (some ⟨b,0,none⟩) n n,.slice (some ⟨c,0,none⟩) m m,.bool false,.int .i64 t]) x,fun _ _ _ ⟨b,c,e,h⟩ hb => ⟨b,c,e,h.keep hb⟩⟩
def mMapg0 (m:Nat) (t:Int) (x:MapgP):MP:=⟨fun v w => ∃ c,v = .agg #[.slice none 0 0,.slice (some ⟨c,0,none⟩) m m,.bool false,.int .i64 t] ∧ MapgAt w (.agg #[.slice none 0 0,.slice (some ⟨c,0,none⟩) m m,.bool false,.int .i64 t]) x,fun _ _ _ ⟨c,e,h⟩ hb => ⟨c,e,h.keep hb⟩⟩
def mMaps (n:Nat) (l:List MapgP):MP:=⟨fun v w => ∃ b,v = .slice (some ⟨b,0,none⟩) n n ∧ MapsAt w (.slice (some ⟨b,0,none⟩) n n) l,fun _ _ _ ⟨b,e,h⟩ hb => ⟨b,e,h.keep hb⟩⟩
def mMap1 (n:Nat) (M:MapP):MP:=⟨fun v w => ∃ b,v = .agg #[.slice (some ⟨b,0,none⟩) n n,.slice none 0 0] ∧ MapAt w (.agg #[.slice (some ⟨b,0,none⟩) n n,.slice none 0 0]) M,fun _ _ _ ⟨b,e,h⟩ hb => ⟨b,e,h.keep hb⟩⟩
def mMap2 (g n:Nat) (M:MapP):MP:=⟨fun v w => ∃ b,v = .agg #[.slice (some ⟨g,0,none⟩) 1 1,.slice (some ⟨b,0,none⟩) n n] ∧ MapAt w (.agg #[.slice (some ⟨g,0,none⟩) 1 1,.slice (some ⟨b,0,none⟩) n n]) M,fun _ _ _ ⟨b,e,h⟩ hb => ⟨b,e,h.keep hb⟩⟩
def mX1 (n:Nat) (M:MapP) (is:Bool):MP:=⟨fun v w => ∃ b,v = .agg #[.slice (some ⟨b,0,none⟩) n n,.slice none 0 0,.bool is] ∧ MapAt w (.agg #[.slice (some ⟨b,0,none⟩) n n,.slice none 0 0]) M,fun _ _ _ ⟨b,e,h⟩ hb => ⟨b,e,h.keep hb⟩⟩
def mX2 (g n:Nat) (M:MapP) (is:Bool):MP:=⟨fun v w => ∃ b,v = .agg #[.slice (some ⟨g,0,none⟩) 1 1,.slice (some ⟨b,0,none⟩) n n,.bool is] ∧ MapAt w (.agg #[.slice (some ⟨g,0,none⟩) 1 1,.slice (some ⟨b,0,none⟩) n n]) M,fun _ _ _ ⟨b,e,h⟩ hb => ⟨b,e,h.keep hb⟩⟩
/-! How they come about. -/
theorem repos1_at {W:World} {b:Nat} {s:ByteArray} {n c:Nat} {u:Value} {l:List ByteArray} (hk:BlkAt W b 47 #[.string s,u]) (hs:s.size ≤ maxLen) (hu:StrsAt W u l) (hn:n = 1):ReposAt W (.slice (some ⟨b,0,none⟩) n c) [(s,l)]:=by
 subst hn
 refine ⟨by show 1 ≤ _; decide,_,_,rfl,fun i x hx => ?_⟩
 match i,hx with
 | 0,hx =>
   obtain rfl:(s,l) = x:=by simpa using hx
   exact ⟨b,0,u,rfl,by rw [BlkAt.cell hk]; rfl,by rw [BlkAt.cell hk]; rfl,hs,hu⟩
 | i + 1,hx => simp at hx
theorem repos2_at {W:World} {b:Nat} {s t:ByteArray} {c:Nat} (hk:BlkAt W b 47 #[.string s,.slice none 0 0,.string t,.slice none 0 0]) (hs:s.size ≤ maxLen) (ht:t.size ≤ maxLen):ReposAt W (.slice (some ⟨b,0,none⟩) 2 c) [(s,[]),(t,[])]:=by
 refine ⟨by show 2 ≤ _; decide,_,_,rfl,fun i x hx => ?_⟩
 match i,hx with
 | 0,hx =>
   obtain rfl:(s,([]:List ByteArray)) = x:=by simpa using hx
   exact ⟨b,0,.slice none 0 0,rfl,by rw [BlkAt.cell hk]; rfl,by rw [BlkAt.cell hk]; rfl,hs,strsAt_nil _⟩
 | 1,hx =>
   obtain rfl:(t,([]:List ByteArray)) = x:=by simpa using hx
   exact ⟨b,0,.slice none 0 0,rfl,by rw [BlkAt.cell hk]; rfl,by rw [BlkAt.cell hk]; rfl,ht,strsAt_nil _⟩
 | i + 2,hx => simp at hx
theorem maps0_at (W:World):MapsAt W (.slice none 0 0) []:=⟨by show 0 ≤ _; decide,fun a n c e => by simp only [Value.slice.injEq] at e; omega,none,0,rfl,fun i x hi => by simp at hi⟩
theorem maps1_at {W:World} {b:Nat} {u1 u2:Value} {x:MapgP} (hk:BlkAt W b 50 #[u1,u2,.bool x.term,.int .i64 x.thr]) (h:MapgAt W (.agg #[u1,u2,.bool x.term,.int .i64 x.thr]) x):MapsAt W (.slice (some ⟨b,0,none⟩) 1 1) [x]:=by
 refine ⟨by show 1 ≤ _; decide,fun a n c e => by simp only [Value.slice.injEq] at e; omega,_,_,rfl,fun i y hy => ?_⟩
 match i,hy with
 | 0,hy =>
   obtain rfl:x = y:=by simpa using hy
   obtain ⟨v1,v2,e,s1,s2,hc,t1,t2⟩:=h
   simp only [Value.agg.injEq,Array.mk.injEq,List.cons.injEq,and_true] at e
   obtain ⟨rfl,rfl⟩:=e
   exact ⟨b,0,u1,u2,rfl,by rw [BlkAt.cell hk]; rfl,by rw [BlkAt.cell hk]; rfl,by rw [BlkAt.cell hk]; rfl,by rw [BlkAt.cell hk]; rfl,s1,s2,hc,t1,t2⟩
 | i + 1,hy => simp at hy
theorem mapOf {W:World} {u1 u2:Value} {rs:List RepoP} {ms:List MapgP} (h1:ReposAt W u1 rs) (h2:MapsAt W u2 ms):MapAt W (.agg #[u1,u2]) ⟨rs,ms⟩:=⟨u1,u2,rfl,h1,h2⟩
theorem mapgOf {W:World} {u1 u2:Value} {p r:List ByteArray} {t:Int} (h1:StrsAt W u1 p) (h2:StrsAt W u2 r) (hc:∀ a n c,u2 = .slice a n c → n ≤ c) (ht:0 ≤ t ∧ t ≤ 1000):MapgAt W (.agg #[u1,u2,.bool false,.int .i64 t]) ⟨p,r,false,t⟩ :=
 ⟨u1,u2,rfl,h1,h2,hc,by show -9223372036854775808 ≤ t; omega,by show t ≤ 9223372036854775807; omega⟩
theorem strs1_at {W:World} {b:Nat} {s:ByteArray} (hk:BlkAt W b 9 #[.string s]) (hs:s.size ≤ 1000000):StrsAt W (.slice (some ⟨b,0,none⟩) 1 1) [s] :=
 strs_blk (l:=[s]) hk rfl (by simp [hs])
theorem cap_self {b n:Nat}:∀ a m c,Value.slice (some ⟨b,0,none⟩) n n = .slice a m c → m ≤ c:=fun a m c e => by
 simp only [Value.slice.injEq] at e; omega
theorem made_at (z:Array Value) (n j:Nat) (h:j < n) (hz:0 < z.size):(madeCells z n)[j]? = z[j % z.size]?:=by
 have h1:j % z.size < z.size:=Nat.mod_lt _ hz
 simp only [madeCells,Array.getElem?_map,Array.getElem?_range,h,if_true,Option.map_some]
 rw [getElem!_pos z _ h1,Array.getElem?_eq_getElem h1]
theorem nines_eq:madeCells (Value.string ⟨#[]⟩).cells 9 = ((List.replicate 9 (⟨#[]⟩:ByteArray)).map Value.string).toArray:=by
 apply Array.ext'
 rw [show (Value.string ⟨#[]⟩).cells = #[.string ⟨#[]⟩] from rfl,toList_madeCells_one]
 rfl
theorem nines_at {W:World} {b:Nat} (hk:BlkAt W b 9 (madeCells (Value.string ⟨#[]⟩).cells 9)):StrsAt W (.slice (some ⟨b,0,none⟩) 9 9) (List.replicate 9 ⟨#[]⟩):=by
 rw [nines_eq] at hk
 exact strs_blk (l:=List.replicate 9 ⟨#[]⟩) hk rfl (by decide)
def z50:Value:=.agg #[.slice none 0 0,.slice none 0 0,.bool false,.int .i64 0]
theorem made17 (j:Nat) (hj:j < 68):(madeCells z50.cells 68)[j]? = z50.cells[j % 4]?:=made_at z50.cells 68 j hj (by decide)
theorem rep17 {i:Nat} {x:MapgP} (h:(List.replicate 17 (⟨[],[],false,0⟩:MapgP))[i]? = some x):i < 17 ∧ x = ⟨[],[],false,0⟩:=by
 obtain ⟨h1,h2⟩:=List.getElem?_eq_some_iff.1 h
 rw [List.length_replicate] at h1
 rw [List.getElem_replicate] at h2
 exact ⟨h1,h2.symm⟩
theorem seventeens_at {W:World} {b:Nat} (hk:BlkAt W b 50 (madeCells z50.cells 68)):MapsAt W (.slice (some ⟨b,0,none⟩) 17 17) (List.replicate 17 ⟨[],[],false,0⟩):=by
 refine ⟨by rw [List.length_replicate]; decide,cap_self,some ⟨b,0,none⟩,17,by rw [List.length_replicate],fun i y hy => ?_⟩
 obtain ⟨hi,rfl⟩:=rep17 hy
 have c:∀ j,j < 4 → W.cell? ⟨b,0 + i * 4 + j,none⟩ = z50.cells[j]?:=fun j hj => by
  rw [BlkAt.cell hk,made17 _ (by omega),show (0 + i * 4 + j) % 4 = j from by omega]
 exact ⟨b,0,.slice none 0 0,.slice none 0 0,rfl,c 0 (by decide),c 1 (by decide),c 2 (by decide),c 3 (by decide),strsAt_nil _,strsAt_nil _,fun a n c e => by simp only [Value.slice.injEq] at e; omega,by decide,by decide⟩
def MayAt (W:World) (b q:Nat):Prop:=∃ (a1:Option Addr) (n1 c1:Nat) (a2:Option Addr) (n2 c2:Nat) (is:Bool) (M:MapP),W.cell? ⟨b,q * 3,none⟩ = some (.slice a1 n1 c1) ∧ W.cell? ⟨b,q * 3 + 1,none⟩ = some (.slice a2 n2 c2) ∧ W.cell? ⟨b,q * 3 + 2,none⟩ = some (.bool is) ∧ MapAt W (.agg #[.slice a1 n1 c1,.slice a2 n2 c2]) M ∧ mayM M = is
theorem mayAt_of {W:World} {b q:Nat} {T:TypeId} {cs:Array Value} {a1 a2:Option Addr} {n1 c1 n2 c2:Nat} {is:Bool} {M:MapP} (hk:BlkAt W b T cs) (h0:cs[q * 3]? = some (.slice a1 n1 c1)) (h1:cs[q * 3 + 1]? = some (.slice a2 n2 c2)) (h2:cs[q * 3 + 2]? = some (.bool is)) (h:MapAt W (.agg #[.slice a1 n1 c1,.slice a2 n2 c2]) M) (hm:mayM M = is):MayAt W b q :=
 ⟨a1,n1,c1,a2,n2,c2,is,M,(hk.cell _).trans h0,(hk.cell _).trans h1,(hk.cell _).trans h2,h,hm⟩
def cnD (g:Nat) (k:Nat):MP:=match k with
 | 0 => mEq (.slice (some ⟨g,0,none⟩) 1 1)
 | 1 => mEq (.agg #[.slice (some ⟨g,0,none⟩) 1 1,.slice none 0 0])
 | 2 => mEq (.agg #[.slice (some ⟨g,0,none⟩) 1 1,.slice none 0 0,.bool true])
 | 3 => mEq (.agg #[.slice none 0 0,.slice none 0 0])
 | 4 => mEq (.agg #[.slice none 0 0,.slice none 0 0,.bool false])
 | 5 => mEq (.agg #[.string ⟨#[115]⟩,.slice none 0 0])
 | 6 => mEq (.agg #[.string ⟨#[114]⟩,.slice none 0 0])
 | 7 => mRepos 2 [(⟨#[115]⟩,[]),(⟨#[114]⟩,[])]
 | 8 => mMap1 2 ⟨[(⟨#[115]⟩,[]),(⟨#[114]⟩,[])],[]⟩
 | 9 => mX1 2 ⟨[(⟨#[115]⟩,[]),(⟨#[114]⟩,[])],[]⟩ false
 | 10 => mEq (.agg #[.string ⟨#[114]⟩,.slice none 0 0])
 | 11 => mEq (.agg #[.string ⟨#[114]⟩,.slice none 0 0])
 | 12 => mRepos 2 [(⟨#[114]⟩,[]),(⟨#[114]⟩,[])]
 | 13 => mMap1 2 ⟨[(⟨#[114]⟩,[]),(⟨#[114]⟩,[])],[]⟩
 | 14 => mX1 2 ⟨[(⟨#[114]⟩,[]),(⟨#[114]⟩,[])],[]⟩ false
 | 15 => mEq (.agg #[.string ⟨#[46,114]⟩,.slice none 0 0])
 | 16 => mRepos 1 [(⟨#[46,114]⟩,[])]
 | 17 => mMap1 1 ⟨[(⟨#[46,114]⟩,[])],[]⟩
 | 18 => mX1 1 ⟨[(⟨#[46,114]⟩,[])],[]⟩ false
 | 19 => mStrs 1 [⟨#[255]⟩]
 | 20 => mRepo ⟨#[114]⟩ 1 [⟨#[255]⟩]
 | 21 => mRepos 1 [(⟨#[114]⟩,[⟨#[255]⟩])]
 | 22 => mMap1 1 ⟨[(⟨#[114]⟩,[⟨#[255]⟩])],[]⟩
 | 23 => mX1 1 ⟨[(⟨#[114]⟩,[⟨#[255]⟩])],[]⟩ false
 | 24 => mStrs 9 (List.replicate 9 ⟨#[]⟩)
 | 25 => mRepo ⟨#[114]⟩ 9 (List.replicate 9 ⟨#[]⟩)
 | 26 => mRepos 1 [(⟨#[114]⟩,List.replicate 9 ⟨#[]⟩)]
 | 27 => mMap1 1 ⟨[(⟨#[114]⟩,List.replicate 9 ⟨#[]⟩)],[]⟩
 | 28 => mX1 1 ⟨[(⟨#[114]⟩,List.replicate 9 ⟨#[]⟩)],[]⟩ false
 | 29 => mEq (.slice (some ⟨g,0,none⟩) 1 1)
 | 30 => mStrs 1 [⟨#[97]⟩]
 | 31 => mStrs 1 [⟨#[114]⟩]
 | 32 => mMapg 1 1 1 ⟨[⟨#[97]⟩],[⟨#[114]⟩],false,1⟩
 | 33 => mMaps 1 [⟨[⟨#[97]⟩],[⟨#[114]⟩],false,1⟩]
 | 34 => mMap2 g 1 ⟨[(⟨#[114]⟩,[])],[⟨[⟨#[97]⟩],[⟨#[114]⟩],false,1⟩]⟩
 | 35 => mX2 g 1 ⟨[(⟨#[114]⟩,[])],[⟨[⟨#[97]⟩],[⟨#[114]⟩],false,1⟩]⟩ true
 | 36 => mEq (.slice (some ⟨g,0,none⟩) 1 1)
 | 37 => mStrs 1 [⟨#[97]⟩]
 | 38 => mStrs 1 [⟨#[114]⟩]
 | 39 => mMapg 1 1 2 ⟨[⟨#[97]⟩],[⟨#[114]⟩],false,2⟩
 | 40 => mMaps 1 [⟨[⟨#[97]⟩],[⟨#[114]⟩],false,2⟩]
 | 41 => mMap2 g 1 ⟨[(⟨#[114]⟩,[])],[⟨[⟨#[97]⟩],[⟨#[114]⟩],false,2⟩]⟩
 | 42 => mX2 g 1 ⟨[(⟨#[114]⟩,[])],[⟨[⟨#[97]⟩],[⟨#[114]⟩],false,2⟩]⟩ false
 | 43 => mEq (.slice (some ⟨g,0,none⟩) 1 1)
 | 44 => mStrs 1 [⟨#[97]⟩]
 | 45 => mStrs 1 [⟨#[115]⟩]
 | 46 => mMapg 1 1 1 ⟨[⟨#[97]⟩],[⟨#[115]⟩],false,1⟩
 | 47 => mMaps 1 [⟨[⟨#[97]⟩],[⟨#[115]⟩],false,1⟩]
 | 48 => mMap2 g 1 ⟨[(⟨#[114]⟩,[])],[⟨[⟨#[97]⟩],[⟨#[115]⟩],false,1⟩]⟩
 | 49 => mX2 g 1 ⟨[(⟨#[114]⟩,[])],[⟨[⟨#[97]⟩],[⟨#[115]⟩],false,1⟩]⟩ false
 | 50 => mEq (.slice (some ⟨g,0,none⟩) 1 1)
 | 51 => mStrs 1 [⟨#[114]⟩]
 | 52 => mMapg0 1 1 ⟨[],[⟨#[114]⟩],false,1⟩
 | 53 => mMaps 1 [⟨[],[⟨#[114]⟩],false,1⟩]
 | 54 => mMap2 g 1 ⟨[(⟨#[114]⟩,[])],[⟨[],[⟨#[114]⟩],false,1⟩]⟩
 | 55 => mX2 g 1 ⟨[(⟨#[114]⟩,[])],[⟨[],[⟨#[114]⟩],false,1⟩]⟩ false
 | 56 => mEq (.slice (some ⟨g,0,none⟩) 1 1)
 | 57 => mMaps 17 (List.replicate 17 ⟨[],[],false,0⟩)
 | 58 => mMap2 g 17 ⟨[(⟨#[114]⟩,[])],List.replicate 17 ⟨[],[],false,0⟩⟩
 | 59 => mX2 g 17 ⟨[(⟨#[114]⟩,[])],List.replicate 17 ⟨[],[],false,0⟩⟩ false
 | _ => mAny
def cnPS:List (Nat × Option Tmp):=[(0,some 241),(1,some 242),(2,some 243),(3,some 244),(4,some 245),(5,some 246),(6,some 247),(7,some 248),(8,some 249),(9,some 250),(10,some 251),(11,some 252),(12,some 253),(13,some 254),(14,some 255),(15,some 256),(16,some 257),(17,some 258),(18,some 259),(19,some 260),(20,some 261),(21,some 262),(22,some 263),(23,some 264),(24,some 265),(25,some 266),(26,some 267),(27,some 268),(28,some 269),(29,some 270),(30,some 271),(31,some 272),(32,some 273),(33,some 274),(34,some 275),(35,some 276),(36,some 277),(37,some 278),(38,some 279),(39,some 280),(40,some 281),(41,some 282),(42,some 283),(43,some 284),(44,some 285),(45,some 286),(46,some 287),(47,some 288),(48,some 289),(49,some 290),(50,some 291),(51,some 292),(52,some 293),(53,some 294),(54,some 295),(55,some 296),(56,some 297),(57,some 298),(58,some 299),(59,some 300)]
theorem cnD_keep (g:Nat):∀ k v w w',(cnD g k).p v w → Below w.heap.size w w' → (cnD g k).p v w':=fun k v w w' => (cnD g k).k v w w'
def cnM (b:Nat) (u:Value) (m:Bool) (k:Nat):Value:=match k with
 | 0 => .pointer (some ⟨b,0,none⟩)
 | 1 => u
 | 2 => .bool m
 | 3 => .pointer (some ⟨b,2,none⟩)
 | 4 => .bool m
 | _ => undef
def cnPS36:List (Nat × Option Tmp):=[(0,some 307),(1,some 308),(2,some 309),(3,some 310),(4,some 311)]
structure CnT where
 G:ByteArray
 T5:ByteArray
 T6:ByteArray
 T7:ByteArray
 T8:ByteArray
 T9:ByteArray
 T10:ByteArray
 T11:ByteArray
 T12:ByteArray
 T13:ByteArray
 T14:ByteArray
 T15:ByteArray
 T16:ByteArray
 T17:ByteArray
 T18:ByteArray
 T19:ByteArray
 T20:ByteArray
 T21:ByteArray
 T22:ByteArray
 M11:ByteArray
 M12:ByteArray
 M13:ByteArray
 M14:ByteArray
 M15:ByteArray
 M16:ByteArray
 M17:ByteArray
 M18:ByteArray
 M19:ByteArray
 M20:ByteArray
def cnE (X:CnT) (k:Nat):Value:=match k with
 | 0 => .agg #[.string ⟨#[]⟩,.int .i64 4]
 | 1 => .agg #[.string ⟨#[91,93]⟩,.int .i64 10]
 | 2 => .agg #[.string ⟨#[123,125]⟩,.int .i64 6]
 | 3 => .agg #[.string ⟨#[123,34,109,97,112,112,105,110,103,34,58,49,44,34,114,101,112,111,115,105,116,111,114,105,101,115,34,58,123,125,125]⟩,.int .i64 4]
 | 4 => .agg #[.string ⟨#[123,34,109,97,112,112,105,110,103,34,58,49,44,34,114,101,112,111,115,105,116,111,114,105,101,115,34,58,91,93,125]⟩,.int .i64 10]
 | 5 => .string X.T5
 | 6 => .agg #[.string X.T5,.int .i64 3]
 | 7 => .string X.T6
 | 8 => .agg #[.string X.T6,.int .i64 10]
 | 9 => .string X.T7
 | 10 => .agg #[.string X.T7,.int .i64 5]
 | 11 => .string X.T8
 | 12 => .agg #[.string X.T8,.int .i64 10]
 | 13 => .string ⟨#[34,114,34,58,91,34,117,34,93,44,34,115,34,58,91,93]⟩
 | 14 => .string X.T9
 | 15 => .agg #[.string X.T9,.int .i64 10]
 | 16 => .string ⟨#[34,114,34,58,91,34,117,34,93,44,34,115,34,58,91,93]⟩
 | 17 => .string X.T10
 | 18 => .agg #[.string X.T10,.int .i64 6]
 | 19 => .string X.M11
 | 20 => .string ⟨#[34,114,34,58,91,34,117,34,93,44,34,115,34,58,91,93]⟩
 | 21 => .string X.T11
 | 22 => .agg #[.string X.T11,.int .i64 4]
 | 23 => .string X.M12
 | 24 => .string ⟨#[34,114,34,58,91,34,117,34,93,44,34,115,34,58,91,93]⟩
 | 25 => .string X.T12
 | 26 => .agg #[.string X.T12,.int .i64 3]
 | 27 => .string X.M13
 | 28 => .string ⟨#[34,114,34,58,91,34,117,34,93,44,34,115,34,58,91,93]⟩
 | 29 => .string X.T13
 | 30 => .agg #[.string X.T13,.int .i64 10]
 | 31 => .string X.M14
 | 32 => .string ⟨#[34,114,34,58,91,34,117,34,93,44,34,115,34,58,91,93]⟩
 | 33 => .string X.T14
 | 34 => .agg #[.string X.T14,.int .i64 4]
 | 35 => .string X.M15
 | 36 => .string ⟨#[34,114,34,58,91,34,117,34,93,44,34,115,34,58,91,93]⟩
 | 37 => .string X.T15
 | 38 => .agg #[.string X.T15,.int .i64 6]
 | 39 => .string X.M16
 | 40 => .string ⟨#[34,114,34,58,91,34,117,34,93,44,34,115,34,58,91,93]⟩
 | 41 => .string X.T16
 | 42 => .agg #[.string X.T16,.int .i64 7]
 | 43 => .string X.M17
 | 44 => .string ⟨#[34,114,34,58,91,34,117,34,93,44,34,115,34,58,91,93]⟩
 | 45 => .string X.T17
 | 46 => .agg #[.string X.T17,.int .i64 1]
 | 47 => .string X.M18
 | 48 => .string ⟨#[34,114,34,58,91,34,117,34,93,44,34,115,34,58,91,93]⟩
 | 49 => .string X.T18
 | 50 => .agg #[.string X.T18,.int .i64 1]
 | 51 => .string X.M19
 | 52 => .string ⟨#[34,114,34,58,91,34,117,34,93,44,34,115,34,58,91,93]⟩
 | 53 => .string X.T19
 | 54 => .agg #[.string X.T19,.int .i64 10]
 | 55 => .string X.G
 | 56 => .string (X.G ++ ⟨#[44]⟩)
 | 57 => .string X.M20
 | 58 => .string ((X.G ++ ⟨#[44]⟩) ++ X.M20)
 | 59 => .string ⟨#[34,114,34,58,91,34,117,34,93,44,34,115,34,58,91,93]⟩
 | 60 => .string X.T20
 | 61 => .agg #[.string X.T20,.int .i64 6]
 | 62 => .string X.G
 | 63 => .string X.G
 | 64 => .int .i64 71
 | 65 => .int .i64 70
 | 66 => .string (X.G.extract 0 70)
 | 67 => .string (X.G.extract 0 70 ++ ⟨#[44,34,120,34,58,49,125]⟩)
 | 68 => .string ⟨#[34,114,34,58,91,34,117,34,93,44,34,115,34,58,91,93]⟩
 | 69 => .string X.T21
 | 70 => .agg #[.string X.T21,.int .i64 11]
 | 71 => .string X.G
 | 72 => .string ⟨#[34,114,34,58,91,34,117,34,93,44,34,115,34,58,91,93]⟩
 | 73 => .string X.T22
 | 74 => .string (X.T22.extract 1 119)
 | 75 => .string (⟨#[123,34,97,34,58,49,44]⟩ ++ X.T22.extract 1 119)
 | 76 => .agg #[.string (⟨#[123,34,97,34,58,49,44]⟩ ++ X.T22.extract 1 119),.int .i64 11]
 | 77 => .string ⟨#[34,114,34,58,91,34,117,34,93,44,34,115,34,58,91,93]⟩
 | 78 => .string (⟨#[123,34,114,101,112,111,115,105,116,111,114,105,101,115,34,58,123]⟩ ++ ⟨#[34,114,34,58,91,34,117,34,93,44,34,115,34,58,91,93]⟩)
 | 79 => .string ((⟨#[123,34,114,101,112,111,115,105,116,111,114,105,101,115,34,58,123]⟩ ++ ⟨#[34,114,34,58,91,34,117,34,93,44,34,115,34,58,91,93]⟩) ++ ⟨#[125,125]⟩)
 | 80 => .agg #[.string ((⟨#[123,34,114,101,112,111,115,105,116,111,114,105,101,115,34,58,123]⟩ ++ ⟨#[34,114,34,58,91,34,117,34,93,44,34,115,34,58,91,93]⟩) ++ ⟨#[125,125]⟩),.int .i64 6]
 | 81 => .string X.G
 | 82 => .string ⟨#[34,114,34,58,91,34,117,34,93,44,34,115,34,58,91,93]⟩
 | 83 => .string X.T22
 | 84 => .string (X.T22 ++ ⟨#[49]⟩)
 | 85 => .agg #[.string (X.T22 ++ ⟨#[49]⟩),.int .i64 11]
 | _ => undef
def cnPS5:List (Nat × Option Tmp):=[(0,some 33),(1,some 34),(2,some 35),(3,some 36),(4,some 37),(5,some 38),(6,some 39),(7,some 40),(8,some 41),(9,some 42),(10,some 43),(11,some 44),(12,some 45),(13,some 46),(14,some 47),(15,some 48),(16,some 49),(17,some 50),(18,some 51),(19,some 52),(20,some 53),(21,some 54),(22,some 55),(23,some 56),(24,some 57),(25,some 58),(26,some 59),(27,some 60),(28,some 61),(29,some 62),(30,some 63),(31,some 64),(32,some 65),(33,some 66),(34,some 67),(35,some 68),(36,some 69),(37,some 70),(38,some 71),(39,some 72),(40,some 73),(41,some 74),(42,some 75),(43,some 76),(44,some 77),(45,some 78),(46,some 79),(47,some 80),(48,some 81),(49,some 82),(50,some 83),(51,some 84),(52,some 85),(53,some 86),(54,some 87),(55,some 88),(56,some 89),(57,some 90),(58,some 91),(59,some 92),(60,some 93),(61,some 94),(62,some 95),(63,some 96),(64,some 97),(65,some 98),(66,some 99),(67,some 100),(68,some 101),(69,some 102),(70,some 103),(71,some 104),(72,some 105),(73,some 106),(74,some 107),(75,some 108),(76,some 109),(77,some 110),(78,some 111),(79,some 112),(80,some 113),(81,some 114),(82,some 115),(83,some 116),(84,some 117),(85,some 118)]
end
end Go.Proofs.YtkphgjkflhjfjaaGreatDoor
