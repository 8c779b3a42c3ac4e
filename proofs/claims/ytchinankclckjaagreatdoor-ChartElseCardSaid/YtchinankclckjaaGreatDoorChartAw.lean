/-
 legatelaw25.awake: the examples.
-/
import Derived.Test.YtchinankclckjaaGreatDoorChartS
import Derived.Test.YtchinankclckjaaGreatDoorChartK
import Derived.Test.YtchinankclckjaaGreatDoorChartMem
import Derived.Test.YtchinankclckjaaGreatDoorChartB2
import Derived.Deep.RegionHeld3
namespace Go.Proofs.YtchinankclckjaaGreatDoor
set_option maxHeartbeats 16000000
set_option maxRecDepth 100000
open Go.RowKit
theorem hid_bare {P:Nat→Bool} {w:World} {p:Addr} {u:Value} (h:(hidden P w).cell? p=some u):w.cell? p=some u:=((hidden_cell _ _ _ _).1 h).2.2
theorem mapPost_at {M:MapP} {w w':World} {e:Ending} (h:MapPost (.ok M) w e w') (h1:M.repos.length≤1000000) (h2:M.maps.length≤1000000):Below w.heap.size w w'∧∃ a1 c1 a2 c2,e=.returned (.tuple #[.agg #[.slice a1 M.repos.length c1,.slice a2 M.maps.length c2],.int .i64 0])∧MapAt w' (.agg #[.slice a1 M.repos.length c1,.slice a2 M.maps.length c2]) M:=by
 obtain ⟨hb,a1,c1,a2,c2,rs,gs,Bm,rfl,-,hr,-,hm,e1,e2,hg⟩:=h
 have l1:rs.length=M.repos.length:=by rw [← e1,List.length_map]
 have l2:gs.length=M.maps.length:=by rw [← e2,List.length_map]
 have r1:=hr.out (by omega)
 have r2:=hm.out (by omega) (fun g hg'=>⟨(hg g hg').1,by have:=(hg g hg').2;omega,by have:=(hg g hg').2;omega⟩)
 rw [e1,l1] at r1
 rw [e2,l2] at r2
 rw [l1,l2]
 exact ⟨hb,a1,c1,a2,c2,rfl,_,_,rfl,r1.imp fun p u hu=>hid_bare hu,r2.imp fun p u hu=>hid_bare hu⟩
theorem mapPost_bad {er:Int} {w w':World} {e:Ending} (h:MapPost (.bad er) w e w'):Below w.heap.size w w'∧e=.returned (.tuple #[.agg #[.slice none 0 0,.slice none 0 0],.int .i64 er]):=⟨h.1,h.2.1⟩
theorem strs_blk {w:World} {b c n:Nat} {l:List ByteArray} (h:BlkAt w b 9 (l.map Value.string).toArray) (hn:n=l.length) (hs:(decide (l.length≤1000000) && l.all (fun s=>decide (s.size≤1000000)))=true):StrsAt w (.slice (some ⟨b,0,none⟩) n c) l:=by
 rw [Bool.and_eq_true,decide_eq_true_eq,List.all_eq_true] at hs
 subst hn
 refine ⟨fun s hm=>by have:=of_decide_eq_true (hs.2 s hm);unfold maxLen;omega,by omega,Or.inr ⟨b,0,c,rfl,fun i s hi=>?_⟩⟩
 rw [BlkAt.cell h,Nat.zero_add]
 simp [hi]
theorem awMap_at {w:World} {b1 b2 b4 b5 b6 c5 c6:Nat} (h1:BlkAt w b1 9 #[.string ⟨#[97,47,42]⟩]) (h2:BlkAt w b2 9 #[.string ⟨#[114]⟩,.string ⟨#[115]⟩]) (h4:BlkAt w b4 9 #[.string ⟨#[117]⟩])
 (h5:BlkAt w b5 48 #[.string ⟨#[114]⟩,.slice (some ⟨b4,0,none⟩) 1 1,.string ⟨#[115]⟩,.slice none 0 0]) (h6:BlkAt w b6 55 #[.slice (some ⟨b1,0,none⟩) 1 1,.slice (some ⟨b2,0,none⟩) 2 2,.bool true,.int .i64 2]) (hc6:1≤c6) :
 MapAt w (.agg #[.slice (some ⟨b5,0,none⟩) 2 c5,.slice (some ⟨b6,0,none⟩) 1 c6]) awMap:=by
 refine ⟨_,_,rfl,⟨by decide,_,_,rfl,fun i r hr=>?_⟩,⟨by decide,fun a n c e=>by simp only [Value.slice.injEq] at e;omega,_,_,rfl,fun i x hx=>?_⟩⟩
 ·match i,hr with
  | 0,hr =>
    obtain rfl:((⟨#[114]⟩:ByteArray),[(⟨#[117]⟩:ByteArray)])=r:=by simpa [awMap,awRepos] using hr
    exact ⟨b5,0,.slice (some ⟨b4,0,none⟩) 1 1,rfl,by rw [BlkAt.cell h5];rfl,by rw [BlkAt.cell h5];rfl,by show (1:Nat)≤maxLen;decide,strs_blk (l:=[⟨#[117]⟩]) h4 rfl (by decide)⟩
  | 1,hr =>
    obtain rfl:((⟨#[115]⟩:ByteArray),([]:List ByteArray))=r:=by simpa [awMap,awRepos] using hr
    exact ⟨b5,0,.slice none 0 0,rfl,by rw [BlkAt.cell h5];rfl,by rw [BlkAt.cell h5];rfl,by show (1:Nat)≤maxLen;decide,strsAt_nil _⟩
  | i+2,hr=>simp [awMap,awRepos] at hr
 ·match i,hx with
  | 0,hx =>
    obtain rfl:awWant=x:=by simpa [awMap] using hx
    exact ⟨b6,0,.slice (some ⟨b1,0,none⟩) 1 1,.slice (some ⟨b2,0,none⟩) 2 2,rfl,by rw [BlkAt.cell h6];rfl,by rw [BlkAt.cell h6];rfl,by rw [BlkAt.cell h6];rfl,by rw [BlkAt.cell h6];rfl,strs_blk (l:=[⟨#[97,47,42]⟩]) h1 rfl (by decide),strs_blk (l:=[⟨#[114]⟩,⟨#[115]⟩]) h2 rfl (by decide),fun a n c e=>by simp only [Value.slice.injEq] at e;omega,by decide,by decide⟩
  | i+1,hx=>simp [awMap] at hx
theorem awWant_at {w:World} {b1 b2:Nat} (h1:BlkAt w b1 9 #[.string ⟨#[97,47,42]⟩]) (h2:BlkAt w b2 9 #[.string ⟨#[114]⟩,.string ⟨#[115]⟩]) :
 MapgAt w (.agg #[.slice (some ⟨b1,0,none⟩) 1 1,.slice (some ⟨b2,0,none⟩) 2 2,.bool true,.int .i64 2]) awWant :=
 ⟨_,_,rfl,strs_blk (l:=[⟨#[97,47,42]⟩]) h1 rfl (by decide),strs_blk (l:=[⟨#[114]⟩,⟨#[115]⟩]) h2 rfl (by decide),fun a n c e=>by simp only [Value.slice.injEq] at e;omega,by decide,by decide⟩
theorem awRead_ok (s t:ByteArray) (_hs:wholeT s awRs=t) (hr:chartT t.data.toList=.ok awMap) (W:World) (hz:t.size≤9223372036854775807) (h:NumEnv W) :
 Calls Tryz.prog 21 #[.string t] W fun e w'=>Below W.heap.size W w'∧∃ a1 c1 a2 c2,e=.returned (.tuple #[.agg #[.slice a1 2 c1,.slice a2 1 c2],.int .i64 0])∧MapAt w' (.agg #[.slice a1 2 c1,.slice a2 1 c2]) awMap:=by
 have h1:=cRead_any t W hz h
 rw [hr] at h1
 exact h1.mono fun e w' hp=>mapPost_at hp (by decide) (by decide)
theorem awRead_bad (t:ByteArray) (er:Int) (hr:chartT t.data.toList=.bad er) (W:World) (hz:t.size≤9223372036854775807) (h:NumEnv W) :
 Calls Tryz.prog 21 #[.string t] W fun e w'=>Below W.heap.size W w'∧e=.returned (.tuple #[.agg #[.slice none 0 0,.slice none 0 0],.int .i64 er]):=by
 have h1:=cRead_any t W hz h
 rw [hr] at h1
 exact h1.mono fun e w' hp=>mapPost_bad hp
theorem forPost_at {l:List MapgP} {w w':World} {e:Ending} (h:ForPost l w e w') (hl:l.length≤1000000) (ht:∀ x ∈ l,-9223372036854775808≤x.thr∧x.thr≤9223372036854775807):Below w.heap.size w w'∧∃ a c,e=.returned (.slice a l.length c)∧MapsAt w' (.slice a l.length c) l:=by
 obtain ⟨a,c,gs,rfl,hb,hm,he,hc⟩:=h
 have hlen:gs.length=l.length:=by rw [← he,List.length_map]
 have r:=hm.out (by omega) (fun g hg=>⟨hc g hg,ht g.x (by rw [← he];exact List.mem_map.2 ⟨g,hg,rfl⟩)⟩)
 rw [he,hlen] at r
 rw [hlen]
 exact ⟨hb,a,c,rfl,r.imp fun p u hu=>hid_bare hu⟩
theorem awFor (p:ByteArray) (l:List MapgP) (n:Nat) (hn:l.length=n) (hl:forV hitB p awMap.maps=l) (hs:(decide (l.length≤1000000) && l.all (fun x=>decide (-9223372036854775808≤x.thr) && decide (x.thr≤9223372036854775807)))=true) (hp:p.size≤maxLen) (v:Value) (W:World) (h:MapAt W v awMap) :
 Calls Tryz.prog 26 #[v,.string p] W fun e w'=>Below W.heap.size W w'∧∃ a c,e=.returned (.slice a n c)∧MapsAt w' (.slice a n c) l:=by
 subst hn
 rw [Bool.and_eq_true,decide_eq_true_eq,List.all_eq_true] at hs
 have h1:=For_any awMap p v W h hp (by decide) (by decide)
 rw [hl] at h1
 refine h1.mono fun e w' hf=>forPost_at hf hs.1 fun x hx=>?_
 have:=hs.2 x hx
 rwa [Bool.and_eq_true,decide_eq_true_eq,decide_eq_true_eq] at this
theorem awOf (y:VC) (W:World) (h:ValAt (pureW W) (chartJ awMap) y.val) :
 Calls Tryz.prog 11 #[y.val] W fun e w'=>Below W.heap.size W w'∧∃ a1 c1 a2 c2,e=.returned (.tuple #[.agg #[.slice a1 2 c1,.slice a2 1 c2],.int .i64 0])∧MapAt w' (.agg #[.slice a1 2 c1,.slice a2 1 c2]) awMap:=by
 have h1:=cOf_any (chartJ awMap) y W h
 rw [chart_back aw_may] at h1
 exact h1.mono fun e w' hp=>mapPost_at hp (by decide) (by decide)
theorem awake25_any (w:World) (henv:NumEnv w) :
 Calls Tryz.prog 7 #[] w fun e w'=>e=.returned (.bool true)∧Below w.heap.size w w':=by
 have HNE:Hid (∀ W,Below w.heap.size w W→NumEnv W):=fun W hb=>henv.below hb
 obtain ⟨s1,hs1⟩:∃ s,mappingT awPaths awTwo ⟨#[50]⟩=s:=⟨_,rfl⟩
 obtain ⟨s2,hs2⟩:∃ s,mappingT awPaths awTwo ⟨#[51]⟩=s:=⟨_,rfl⟩
 obtain ⟨s3,hs3⟩:∃ s,mappingT awPaths awOdd ⟨#[50]⟩=s:=⟨_,rfl⟩
 obtain ⟨t1,ht1⟩:∃ s,wholeT s1 awRs=s:=⟨_,rfl⟩
 obtain ⟨t2,ht2⟩:∃ s,wholeT s2 awRs=s:=⟨_,rfl⟩
 obtain ⟨t3,ht3⟩:∃ s,wholeT s3 awRs=s:=⟨_,rfl⟩
 obtain ⟨t4,ht4⟩:∃ s,wholeT ⟨#[]⟩ ⟨#[]⟩=s:=⟨_,rfl⟩
 have z1:s1.size≤1000000:=by rw [← hs1,← size_len,mapping_list];decide
 have z2:s2.size≤1000000:=by rw [← hs2,← size_len,mapping_list];decide
 have z3:s3.size≤1000000:=by rw [← hs3,← size_len,mapping_list];decide
 have y1:t1.size≤9223372036854775807:=by rw [← ht1,← hs1,← size_len,whole_list,mapping_list];decide
 have y2:t2.size≤9223372036854775807:=by rw [← ht2,← hs2,← size_len,whole_list,mapping_list];decide
 have y3:t3.size≤9223372036854775807:=by rw [← ht3,← hs3,← size_len,whole_list,mapping_list];decide
 have y4:t4.size≤9223372036854775807:=by rw [← ht4,← size_len,whole_list];decide
 have HM1:Hid (∀ W,Calls Tryz.prog 23 #[.string ⟨#[34,97,47,42,34]⟩,.string ⟨#[34,114,34,44,34,115,34]⟩,.string ⟨#[50]⟩] W fun e w'=>e=.returned (.string s1)∧W=w'):=fun W=>by rw [← hs1];exact mapping25_any awPaths awTwo ⟨#[50]⟩ W (by decide) (by decide) (by decide)
 have HM2:Hid (∀ W,Calls Tryz.prog 23 #[.string ⟨#[34,97,47,42,34]⟩,.string ⟨#[34,114,34,44,34,115,34]⟩,.string ⟨#[51]⟩] W fun e w'=>e=.returned (.string s2)∧W=w'):=fun W=>by rw [← hs2];exact mapping25_any awPaths awTwo ⟨#[51]⟩ W (by decide) (by decide) (by decide)
 have HM3:Hid (∀ W,Calls Tryz.prog 23 #[.string ⟨#[34,97,47,42,34]⟩,.string ⟨#[34,114,34,44,34,116,34]⟩,.string ⟨#[50]⟩] W fun e w'=>e=.returned (.string s3)∧W=w'):=fun W=>by rw [← hs3];exact mapping25_any awPaths awOdd ⟨#[50]⟩ W (by decide) (by decide) (by decide)
 have HW1:Hid (∀ W,Calls Tryz.prog 22 #[.string s1,.string ⟨#[34,114,34,58,91,34,117,34,93,44,34,115,34,58,91,93]⟩] W fun e w'=>e=.returned (.string t1)∧W=w'):=fun W=>by rw [← ht1];exact whole25_any s1 awRs W z1 (by decide)
 have HW2:Hid (∀ W,Calls Tryz.prog 22 #[.string s2,.string ⟨#[34,114,34,58,91,34,117,34,93,44,34,115,34,58,91,93]⟩] W fun e w'=>e=.returned (.string t2)∧W=w'):=fun W=>by rw [← ht2];exact whole25_any s2 awRs W z2 (by decide)
 have HW3:Hid (∀ W,Calls Tryz.prog 22 #[.string s3,.string ⟨#[34,114,34,58,91,34,117,34,93,44,34,115,34,58,91,93]⟩] W fun e w'=>e=.returned (.string t3)∧W=w'):=fun W=>by rw [← ht3];exact whole25_any s3 awRs W z3 (by decide)
 have HW4:Hid (∀ W,Calls Tryz.prog 22 #[.string ⟨#[]⟩,.string ⟨#[]⟩] W fun e w'=>e=.returned (.string t4)∧W=w'):=fun W=>by rw [← ht4];exact whole25_any ⟨#[]⟩ ⟨#[]⟩ W (by decide) (by decide)
 have HR1:=Lib.hid (fun W (hb:Below w.heap.size w W)=>awRead_ok s1 t1 ht1 (by rw [← ht1,← hs1];exact aw_read) W y1 (HNE.out W hb))
 have HR2:=Lib.hid (fun W (hb:Below w.heap.size w W)=>awRead_bad t2 1 (by rw [← ht2,← hs2];exact aw_three) W y2 (HNE.out W hb))
 have HR3:=Lib.hid (fun W (hb:Below w.heap.size w W)=>awRead_bad t3 6 (by rw [← ht3,← hs3];exact aw_odd) W y3 (HNE.out W hb))
 have HR4:=Lib.hid (fun W (hb:Below w.heap.size w W)=>awRead_bad t4 4 (by rw [← ht4];exact aw_none) W y4 (HNE.out W hb))
 clear hs1 hs2 hs3 ht1 ht2 ht3 ht4 z1 z2 z3 y1 y2 y3 y4 henv
 go_enter Tryz.func7,Tryz.ntmps7
 go_wp2_with fail
 refine (HM1.out _).mono ?_
 rintro e w1 ⟨rfl,rfl⟩
 go_wp2_with fail
 refine (HW1.out _).mono ?_
 rintro e w1 ⟨rfl,rfl⟩
 go_wp2_with fail
 refine (HR1.out _ (Below.refl _ _)).mono ?_
 rintro e w1 ⟨hb1,a1,c1,a2,c2,rfl,hm1⟩
 -- the map in its block, what is wanted, and the map of it
 obtain ⟨w2,hw2⟩:∃ y,y=w1.alloc (.cells #[.slice a1 2 c1,.slice a2 1 c2] 25):=⟨_,rfl⟩
 obtain ⟨w3,hw3⟩:∃ y,y=w2.alloc (.cells #[.string ⟨#[97,47,42]⟩] 9):=⟨_,rfl⟩
 obtain ⟨w4,hw4⟩:∃ y,y=w3.alloc (.cells #[.string ⟨#[114]⟩,.string ⟨#[115]⟩] 9):=⟨_,rfl⟩
 obtain ⟨w5,hw5⟩:∃ y,y=w4.alloc (.cells #[.slice (some ⟨w1.heap.size+1,0,none⟩) 1 1,.slice (some ⟨w1.heap.size+1+1,0,none⟩) 2 2,.bool true,.int .i64 2] 55):=⟨_,rfl⟩
 obtain ⟨w6,hw6⟩:∃ y,y=w5.alloc (.cells #[.string ⟨#[117]⟩] 9):=⟨_,rfl⟩
 obtain ⟨w7,hw7⟩:∃ y,y=w6.alloc (.cells #[.string ⟨#[114]⟩,.slice (some ⟨w1.heap.size+1+1+1+1,0,none⟩) 1 1,.string ⟨#[115]⟩,.slice none 0 0] 48):=⟨_,rfl⟩
 obtain ⟨w8,hw8⟩:∃ y,y=w7.alloc (.cells #[.slice (some ⟨w1.heap.size+1,0,none⟩) 1 1,.slice (some ⟨w1.heap.size+1+1,0,none⟩) 2 2,.bool true,.int .i64 2] 55):=⟨_,rfl⟩
 have e2:w2.heap.size=w1.heap.size+1:=by rw [hw2,size_al]
 have e3:w3.heap.size=w1.heap.size+1+1:=by rw [hw3,size_al,e2]
 have e4:w4.heap.size=w1.heap.size+1+1+1:=by rw [hw4,size_al,e3]
 have e5:w5.heap.size=w1.heap.size+1+1+1+1:=by rw [hw5,size_al,e4]
 have e6:w6.heap.size=w1.heap.size+1+1+1+1+1:=by rw [hw6,size_al,e5]
 have e7:w7.heap.size=w1.heap.size+1+1+1+1+1+1:=by rw [hw7,size_al,e6]
 have e8:w8.heap.size=w1.heap.size+1+1+1+1+1+1+1:=by rw [hw8,size_al,e7]
 have b2:Below w1.heap.size w1 w2:=by rw [hw2];exact bel_alloc (Below.refl _ _) _
 have b3:Below w2.heap.size w2 w3:=by rw [hw3];exact bel_alloc (Below.refl _ _) _
 have b4:Below w3.heap.size w3 w4:=by rw [hw4];exact bel_alloc (Below.refl _ _) _
 have b5:Below w4.heap.size w4 w5:=by rw [hw5];exact bel_alloc (Below.refl _ _) _
 have b6:Below w5.heap.size w5 w6:=by rw [hw6];exact bel_alloc (Below.refl _ _) _
 have b7:Below w6.heap.size w6 w7:=by rw [hw7];exact bel_alloc (Below.refl _ _) _
 have b8:Below w7.heap.size w7 w8:=by rw [hw8];exact bel_alloc (Below.refl _ _) _
 have k1:BlkAt w2 w1.heap.size 25 #[.slice a1 2 c1,.slice a2 1 c2]:=by rw [hw2];exact blkAt_new w1 _ _
 have k2:BlkAt w3 (w1.heap.size+1) 9 #[.string ⟨#[97,47,42]⟩]:=by rw [hw3,← e2];exact blkAt_new w2 _ _
 have k3:BlkAt w4 (w1.heap.size+1+1) 9 #[.string ⟨#[114]⟩,.string ⟨#[115]⟩]:=by rw [hw4,← e3];exact blkAt_new w3 _ _
 have k4:BlkAt w5 (w1.heap.size+1+1+1) 55 #[.slice (some ⟨w1.heap.size+1,0,none⟩) 1 1,.slice (some ⟨w1.heap.size+1+1,0,none⟩) 2 2,.bool true,.int .i64 2]:=by rw [hw5,← e4];exact blkAt_new w4 _ _
 have k5:BlkAt w6 (w1.heap.size+1+1+1+1) 9 #[.string ⟨#[117]⟩]:=by rw [hw6,← e5];exact blkAt_new w5 _ _
 have k6:BlkAt w7 (w1.heap.size+1+1+1+1+1) 48 #[.string ⟨#[114]⟩,.slice (some ⟨w1.heap.size+1+1+1+1,0,none⟩) 1 1,.string ⟨#[115]⟩,.slice none 0 0]:=by rw [hw7,← e6];exact blkAt_new w6 _ _
 have k7:BlkAt w8 (w1.heap.size+1+1+1+1+1+1) 55 #[.slice (some ⟨w1.heap.size+1,0,none⟩) 1 1,.slice (some ⟨w1.heap.size+1+1,0,none⟩) 2 2,.bool true,.int .i64 2]:=by rw [hw8,← e7];exact blkAt_new w7 _ _
 have b58:Below w5.heap.size w5 w8:=below_more b6 (below_more b7 b8)
 have b28:Below w2.heap.size w2 w8:=below_more b3 (below_more b4 (below_more b5 b58))
 have K1:=Lib.hid (BlkAt.keep k1 b28)
 have K2:=Lib.hid (BlkAt.keep k2 (below_more b4 (below_more b5 b58)))
 have K3:=Lib.hid (BlkAt.keep k3 (below_more b5 b58))
 have K4:=Lib.hid (BlkAt.keep k4 b58)
 have K5:=Lib.hid (BlkAt.keep k5 (below_more b7 b8))
 have K6:=Lib.hid (BlkAt.keep k6 b8)
 have K7:=Lib.hid k7
 have B8:=Lib.hid (below_more hb1 (below_more b2 b28))
 have M8:=Lib.hid (hm1.keep (below_more b2 b28))
 have A8:=Lib.hid (awMap_at (c5:=2) (c6:=1) K2.out K3.out K5.out K6.out K7.out (by decide))
 have W8:Hid (w8=((((((w1.alloc (.cells #[.slice a1 2 c1,.slice a2 1 c2] 25)).alloc (.cells #[.string ⟨#[97,47,42]⟩] 9)).alloc (.cells #[.string ⟨#[114]⟩,.string ⟨#[115]⟩] 9)).alloc (.cells #[.slice (some ⟨w1.heap.size+1,0,none⟩) 1 1,.slice (some ⟨w1.heap.size+1+1,0,none⟩) 2 2,.bool true,.int .i64 2] 55)).alloc (.cells #[.string ⟨#[117]⟩] 9)).alloc (.cells #[.string ⟨#[114]⟩,.slice (some ⟨w1.heap.size+1+1+1+1,0,none⟩) 1 1,.string ⟨#[115]⟩,.slice none 0 0] 48)).alloc (.cells #[.slice (some ⟨w1.heap.size+1,0,none⟩) 1 1,.slice (some ⟨w1.heap.size+1+1,0,none⟩) 2 2,.bool true,.int .i64 2] 55)):=by show _=_;rw [hw8,hw7,hw6,hw5,hw4,hw3,hw2]
 clear hw2 hw3 hw4 hw5 hw6 hw7 hw8 e2 e3 e4 e5 e6 e7 e8 b2 b3 b4 b5 b6 b7 b8 k1 k2 k3 k4 k5 k6 k7 b58 b28 hb1 hm1
 go_wp2_with fail
 rw [← W8.out]
 refine (same25_any awMap awMap _ _ w8 M8.out A8.out).mono ?_
 rintro e w9 ⟨rfl,hb9⟩
 have B9:=Lib.hid (below_more B8.out hb9)
 have Q1:=Lib.hid (BlkAt.keep K1.out hb9)
 have Q2:=Lib.hid (BlkAt.keep K2.out hb9)
 have Q3:=Lib.hid (BlkAt.keep K3.out hb9)
 have Q4:=Lib.hid (BlkAt.keep K4.out hb9)
 have M9:=Lib.hid (M8.out.keep hb9)
 have ht:decide (awMap=awMap)=true:=decide_eq_true rfl
 rw [ht]
 clear K1 K2 K3 K4 K5 K6 K7 A8 M8 B8 W8 hb9 ht
 obtain ⟨m0,m1,mf⟩:=b2 Q1.out
 go_wp2_with fail
 refine (cMay_any awMap _ w9 M9.out).mono ?_
 rintro e wA ⟨rfl,hbA⟩
 rw [aw_may]
 have BA:=Lib.hid (below_more B9.out hbA)
 have MA:=Lib.hid (M9.out.keep hbA)
 have NA:=Lib.hid (Below.refl w9.heap.size w9 |> fun h=>below_more h hbA)
 obtain ⟨m0,m1,mf⟩:=b2 (BlkAt.keep Q1.out NA.out)
 clear hbA
 go_wp2_with fail
 refine (cSame_any awMap awMap _ _ wA MA.out MA.out).mono ?_
 rintro e wB ⟨rfl,hbB⟩
 have ht:decide (awMap=awMap)=true:=decide_eq_true rfl
 rw [ht]
 have BB:=Lib.hid (below_more BA.out hbB)
 have MB:=Lib.hid (MA.out.keep hbB)
 have NB:=Lib.hid (below_more NA.out hbB)
 obtain ⟨m0,m1,mf⟩:=b2 (BlkAt.keep Q1.out NB.out)
 clear hbB ht
 go_wp2_with fail
 refine (awFor ⟨#[97,47,98]⟩ [awWant] 1 rfl aw_for (by decide) (by decide) _ wB MB.out).mono ?_
 rintro e wC ⟨hbC,la,lc,rfl,hlC⟩
 have BC:=Lib.hid (below_more BB.out hbC)
 have MC:=Lib.hid (MB.out.keep hbC)
 have NC:=Lib.hid (below_more NB.out hbC)
 have LC:=Lib.hid hlC
 obtain ⟨m0,m1,mf⟩:=b2 (BlkAt.keep Q1.out NC.out)
 clear hbC hlC
 go_wp2_with fail
 refine (cValue_any awMap _ wC MC.out).mono ?_
 rintro e wD ⟨hbD,hD⟩
 rw [aw_may] at hD
 simp only [Bool.true_eq_false,false_and,false_or,true_and] at hD
 obtain ⟨⟨yk,yn,yt,ya,yl,yc,yb,ym,ye⟩,rfl,hvD⟩:=hD
 simp only [VC.val]
 obtain ⟨wE,hwE⟩:∃ y,y=wD.alloc (.cells #[.int .u8 yk,.int .i64 yn,.string yt,.slice ya yl yc,.slice yb ym ye] 29):=⟨_,rfl⟩
 have hbE:Below wD.heap.size wD wE:=by rw [hwE];exact bel_alloc (Below.refl _ _) _
 have KE:Hid (BlkAt wE wD.heap.size 29 #[.int .u8 yk,.int .i64 yn,.string yt,.slice ya yl yc,.slice yb ym ye]):=by rw [hwE];exact blkAt_new wD _ _
 have VE:Hid (ValAt (pureW wE) (chartJ awMap) (VC.val ⟨yk,yn,yt,ya,yl,yc,yb,ym,ye⟩)):=valOf_pure hvD hbE
 have BE:=Lib.hid (below_more (below_more BC.out hbD) hbE)
 have ME:=Lib.hid (MC.out.keep (below_more hbD hbE))
 have NE:=Lib.hid (below_more (below_more NC.out hbD) hbE)
 have LE:=Lib.hid (LC.out.keep (below_more hbD hbE))
 have WE:=Lib.hid hwE
 obtain ⟨v0,v1,v2,v3,v4,vf⟩:=b5 KE.out
 rw [WE.out] at v0 v1 v2 v3 v4 vf
 clear hbD hbE hwE hvD
 go_wp2_with fail
 rw [← WE.out]
 refine (awOf ⟨yk,yn,yt,ya,yl,yc,yb,ym,ye⟩ wE VE.out).mono ?_
 rintro e wF ⟨hbF,f1,g1,f2,g2,rfl,hmF⟩
 obtain ⟨wG,hwG⟩:∃ y,y=wF.alloc (.cells #[.slice f1 2 g1,.slice f2 1 g2] 25):=⟨_,rfl⟩
 have hbG:Below wF.heap.size wF wG:=by rw [hwG];exact bel_alloc (Below.refl _ _) _
 have KG:Hid (BlkAt wG wF.heap.size 25 #[.slice f1 2 g1,.slice f2 1 g2]):=by rw [hwG];exact blkAt_new wF _ _
 have FG:=Lib.hid (hmF.keep hbG)
 have BG:=Lib.hid (below_more (below_more BE.out hbF) hbG)
 have MG:=Lib.hid (ME.out.keep (below_more hbF hbG))
 have NG:=Lib.hid (below_more (below_more NE.out hbF) hbG)
 have LG:=Lib.hid (LE.out.keep (below_more hbF hbG))
 have WG:=Lib.hid hwG
 clear hbF hbG hwG hmF v0 v1 v2 v3 v4 vf
 go_wp2_with fail
 rw [← WG.out]
 refine (HM2.out _).mono ?_
 rintro e wX ⟨rfl,rfl⟩
 go_wp2_with fail
 refine (HW2.out _).mono ?_
 rintro e wX ⟨rfl,rfl⟩
 go_wp2_with fail
 refine (HR2.out _ BG.out).mono ?_
 rintro e wH ⟨hb,rfl⟩
 obtain ⟨wI,hw⟩:∃ y,y=wH.alloc (.cells #[.slice none 0 0,.slice none 0 0] 25):=⟨_,rfl⟩
 have hb2:Below wH.heap.size wH wI:=by rw [hw];exact bel_alloc (Below.refl _ _) _
 have BI:=Lib.hid (below_more (below_more BG.out hb) hb2)
 have NI:=Lib.hid (below_more (below_more NG.out hb) hb2)
 have MI:=Lib.hid (MG.out.keep (below_more hb hb2))
 have LI:=Lib.hid (LG.out.keep (below_more hb hb2))
 have FI:=Lib.hid (FG.out.keep (below_more hb hb2))
 have KI:=Lib.hid (BlkAt.keep KG.out (below_more hb hb2))
 have WI:=Lib.hid hw
 clear hb hb2 hw
 go_wp2_with fail
 rw [← WI.out]
 refine (HM3.out _).mono ?_
 rintro e wX ⟨rfl,rfl⟩
 go_wp2_with fail
 refine (HW3.out _).mono ?_
 rintro e wX ⟨rfl,rfl⟩
 go_wp2_with fail
 refine (HR3.out _ BI.out).mono ?_
 rintro e wJ ⟨hb,rfl⟩
 obtain ⟨wK,hw⟩:∃ y,y=wJ.alloc (.cells #[.slice none 0 0,.slice none 0 0] 25):=⟨_,rfl⟩
 have hb2:Below wJ.heap.size wJ wK:=by rw [hw];exact bel_alloc (Below.refl _ _) _
 have BK:=Lib.hid (below_more (below_more BI.out hb) hb2)
 have NK:=Lib.hid (below_more (below_more NI.out hb) hb2)
 have MK:=Lib.hid (MI.out.keep (below_more hb hb2))
 have LK:=Lib.hid (LI.out.keep (below_more hb hb2))
 have FK:=Lib.hid (FI.out.keep (below_more hb hb2))
 have KK:=Lib.hid (BlkAt.keep KI.out (below_more hb hb2))
 have WK:=Lib.hid hw
 clear hb hb2 hw
 go_wp2_with fail
 rw [← WK.out]
 refine (HW4.out _).mono ?_
 rintro e wX ⟨rfl,rfl⟩
 go_wp2_with fail
 refine (HR4.out _ BK.out).mono ?_
 rintro e wL ⟨hb,rfl⟩
 obtain ⟨wO,hw⟩:∃ y,y=wL.alloc (.cells #[.slice none 0 0,.slice none 0 0] 25):=⟨_,rfl⟩
 have hb2:Below wL.heap.size wL wO:=by rw [hw];exact bel_alloc (Below.refl _ _) _
 have BO:=Lib.hid (below_more (below_more BK.out hb) hb2)
 have NO:=Lib.hid (below_more (below_more NK.out hb) hb2)
 have MO:=Lib.hid (MK.out.keep (below_more hb hb2))
 have LO:=Lib.hid (LK.out.keep (below_more hb hb2))
 have FO:=Lib.hid (FK.out.keep (below_more hb hb2))
 have KO:=Lib.hid (BlkAt.keep KK.out (below_more hb hb2))
 have WO:=Lib.hid hw
 obtain ⟨la',lc',le,-,hlc⟩:=LO.out.at
 simp only [Value.slice.injEq] at le
 obtain ⟨rfl,-,rfl⟩:=le
 obtain ⟨lb,lo,q1,d1,q2,d2,rfl,l0,l1,l2,l3,-,-,lx⟩:=hlc 0 awWant rfl
 have LX:=Lib.hid lx
 clear hb hb2 hw hlc lx
 go_wp2_with fail
 rw [← WO.out]
 obtain ⟨nb,hnb⟩:∃ z,wF.heap.size=z:=⟨_,rfl⟩
 rw [hnb] at KO ⊢
 clear hnb
 obtain ⟨m0,m1,mf⟩:=b2 (BlkAt.keep Q1.out NO.out)
 obtain ⟨x0,x1,x2,x3,xf⟩:=b4' (BlkAt.keep Q4.out NO.out)
 obtain ⟨n0,n1,nf⟩:=b2 KO.out
 have l0:wO.cell? ⟨lb,lo,none⟩=some (.slice q1 1 d1):=l0
 have l1:wO.cell? ⟨lb,lo+1,none⟩=some (.slice q2 2 d2):=l1
 have l2:wO.cell? ⟨lb,lo+2,none⟩=some (.bool true):=l2
 have l3:wO.cell? ⟨lb,lo+3,none⟩=some (.int .i64 2):=l3
 have WA:Hid (MapgAt wO (.agg #[.slice (some ⟨w1.heap.size+1,0,none⟩) 1 1,.slice (some ⟨w1.heap.size+1+1,0,none⟩) 2 2,.bool true,.int .i64 2]) awWant):=awWant_at (BlkAt.keep Q2.out NO.out) (BlkAt.keep Q3.out NO.out)
 have HSX:Hid (∀ Y,Below wO.heap.size wO Y→Calls Tryz.prog 27 #[.agg #[.slice q1 1 d1,.slice q2 2 d2,.bool true,.int .i64 2],.agg #[.slice (some ⟨w1.heap.size+1,0,none⟩) 1 1,.slice (some ⟨w1.heap.size+1+1,0,none⟩) 2 2,.bool true,.int .i64 2]] Y fun e w'=>e=.returned (.bool true)∧Below Y.heap.size Y w'):=fun Y hY=>same25x_any awWant awWant _ _ Y (MapgAt.keep hY LX.out) (WA.out.keep hY)
 have HFO:Hid (∀ Y,Below wO.heap.size wO Y→Calls Tryz.prog 26 #[.agg #[.slice a1 2 c1,.slice a2 1 c2],.string ⟨#[98]⟩] Y fun e w'=>Below Y.heap.size Y w'∧∃ a c,e=.returned (.slice a 0 c)∧MapsAt w' (.slice a 0 c) []):=fun Y hY=>awFor ⟨#[98]⟩ [] 0 rfl aw_fornot (by decide) (by decide) _ Y (MO.out.keep hY)
 have HY1:Hid (∀ Y,Below wO.heap.size wO Y→Calls Tryz.prog 28 #[.agg #[.slice (some ⟨w1.heap.size+1,0,none⟩) 1 1,.slice (some ⟨w1.heap.size+1+1,0,none⟩) 2 2,.bool true,.int .i64 2],.string ⟨#[97,47,98]⟩] Y fun e w'=>e=.returned (.bool true)∧Below Y.heap.size Y w'):=fun Y hY=>by
  have h:=Matches_any awWant ⟨#[97,47,98]⟩ (some ⟨w1.heap.size+1,0,none⟩) (some ⟨w1.heap.size+1+1,0,none⟩) 1 1 2 2 Y (strs_blk (l:=[⟨#[97,47,42]⟩]) (BlkAt.keep Q2.out (below_more NO.out hY)) rfl (by decide)) (by decide)
  rw [aw_yes] at h
  exact h
 have HY2:Hid (∀ Y,Below wO.heap.size wO Y→Calls Tryz.prog 28 #[.agg #[.slice (some ⟨w1.heap.size+1,0,none⟩) 1 1,.slice (some ⟨w1.heap.size+1+1,0,none⟩) 2 2,.bool true,.int .i64 2],.string ⟨#[97]⟩] Y fun e w'=>e=.returned (.bool false)∧Below Y.heap.size Y w'):=fun Y hY=>by
  have h:=Matches_any awWant ⟨#[97]⟩ (some ⟨w1.heap.size+1,0,none⟩) (some ⟨w1.heap.size+1+1,0,none⟩) 1 1 2 2 Y (strs_blk (l:=[⟨#[97,47,42]⟩]) (BlkAt.keep Q2.out (below_more NO.out hY)) rfl (by decide)) (by decide)
  rw [aw_not] at h
  exact h
 have HSA:Hid (∀ Y,Below wO.heap.size wO Y→Calls Tryz.prog 24 #[.agg #[.slice a1 2 c1,.slice a2 1 c2],.agg #[.slice f1 2 g1,.slice f2 1 g2]] Y fun e w'=>e=.returned (.bool true)∧Below Y.heap.size Y w'):=fun Y hY=>same25_any awMap awMap _ _ Y (MO.out.keep hY) (FO.out.keep hY)
 clear HM1 HM2 HM3 HW1 HW2 HW3 HW4 HR1 HR2 HR3 HR4 Q1 Q2 Q3 Q4 LX WA
 go_region_held3 (fun w'=>Below wO.heap.size wO w'∧w'.cell? ⟨w1.heap.size,0,none⟩=some (.slice a1 2 c1)∧w'.cell? ⟨w1.heap.size,1,none⟩=some (.slice a2 1 c2)∧w'.cell? ⟨w1.heap.size+1+1+1,0,none⟩=some (.slice (some ⟨w1.heap.size+1,0,none⟩) 1 1)∧w'.cell? ⟨w1.heap.size+1+1+1,1,none⟩=some (.slice (some ⟨w1.heap.size+1+1,0,none⟩) 2 2)∧w'.cell? ⟨w1.heap.size+1+1+1,2,none⟩=some (.bool true)∧w'.cell? ⟨w1.heap.size+1+1+1,3,none⟩=some (.int .i64 2)∧w'.cell? ⟨nb,0,none⟩=some (.slice f1 2 g1)∧w'.cell? ⟨nb,1,none⟩=some (.slice f2 1 g2)∧w'.cell? ⟨lb,lo,none⟩=some (.slice q1 1 d1)∧w'.cell? ⟨lb,lo+1,none⟩=some (.slice q2 2 d2)∧w'.cell? ⟨lb,lo+2,none⟩=some (.bool true)∧w'.cell? ⟨lb,lo+3,none⟩=some (.int .i64 2))
  ((refine (fun h=>⟨h,cell_keep h m0,cell_keep h m1,cell_keep h x0,cell_keep h x1,cell_keep h x2,cell_keep h x3,cell_keep h n0,cell_keep h n1,cell_keep h l0,cell_keep h l1,cell_keep h l2,cell_keep h l3⟩:Below wO.heap.size wO _→_) ?_;go_split_ands;(repeat (first | assumption | exact Below.refl _ _ | refine bel_drew ?_ | refine below_more ?_ (by assumption)))))
  (first
   | (go_at_call 27;refine (HSX.out _ (by (repeat (first | refine bel_drew ?_ | exact Below.refl _ _ | assumption | refine below_more ?_ (by assumption))))).mono ?_;rintro e wP ⟨rfl,hbP⟩;have hAP:Below wO.heap.size wO wP:=below_more (by (repeat (first | refine bel_drew ?_ | exact Below.refl _ _ | assumption | refine below_more ?_ (by assumption)))) hbP)
   | (go_at_call 26;refine (HFO.out _ (by (repeat (first | refine bel_drew ?_ | exact Below.refl _ _ | assumption | refine below_more ?_ (by assumption))))).mono ?_;rintro e wR ⟨hbR,ra,rc,rfl,hlR⟩;have hAR:Below wO.heap.size wO wR:=below_more (by (repeat (first | refine bel_drew ?_ | exact Below.refl _ _ | assumption | refine below_more ?_ (by assumption)))) hbR)
   | (go_at_call 28;refine (HY1.out _ (by (repeat (first | refine bel_drew ?_ | exact Below.refl _ _ | assumption | refine below_more ?_ (by assumption))))).mono ?_;rintro e wS ⟨rfl,hbS⟩;have hAS:Below wO.heap.size wO wS:=below_more (by (repeat (first | refine bel_drew ?_ | exact Below.refl _ _ | assumption | refine below_more ?_ (by assumption)))) hbS)
   | (go_at_call 28;refine (HY2.out _ (by (repeat (first | refine bel_drew ?_ | exact Below.refl _ _ | assumption | refine below_more ?_ (by assumption))))).mono ?_;rintro e wT ⟨rfl,hbT⟩;have hAT:Below wO.heap.size wO wT:=below_more (by (repeat (first | refine bel_drew ?_ | exact Below.refl _ _ | assumption | refine below_more ?_ (by assumption)))) hbT)
   | (go_at_call 24;refine (HSA.out _ (by (repeat (first | refine bel_drew ?_ | exact Below.refl _ _ | assumption | refine below_more ?_ (by assumption))))).mono ?_;rintro e wU ⟨rfl,hbU⟩;have hAU:Below wO.heap.size wO wU:=below_more (by (repeat (first | refine bel_drew ?_ | exact Below.refl _ _ | assumption | refine below_more ?_ (by assumption)))) hbU))
 go_wp2_with fail
 go_ret
 exact ⟨rfl,below_more BO.out (by (repeat (first | refine bel_drew ?_ | exact Below.refl _ _ | assumption | refine below_more ?_ (by assumption))))⟩
end Go.Proofs.YtchinankclckjaaGreatDoor
