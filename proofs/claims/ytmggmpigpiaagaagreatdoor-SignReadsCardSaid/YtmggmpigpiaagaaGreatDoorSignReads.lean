/-
  legateref09.walk.object, over the contract of value.
  legateref09: value, whole; Read: what the document's reading of a text of JSON gives: the same as readV.
  legateref16.Read: the envelope of a text, by the document.
  The walk of the law SignReads.
-/
import Derived.Test.YtmggmpigpiaagaaGreatDoorWkList
import Derived.Deep.RegionHeldLaw
import Derived.Deep.Cut
import Derived.Deep.CutRange
import Derived.Deep.CutBlock
import Derived.Test.YtmggmpigpiaagaaGreatDoorSignR
import Derived.Test.YtmggmpigpiaagaaGreatDoorSignB
import Derived.Test.YtmggmpigpiaagaaGreatDoorSignW
namespace Go.Proofs.YtmggmpigpiaagaaGreatDoor
section
set_option maxRecDepth 100000
open Go.RowKit
theorem zip_ins {k : Nat} : ∀ {ns : List ByteArray} {vs : List JV} (n : ByteArray) (v : JV), ns.length = vs.length → (ns.take k ++ n :: ns.drop k).zip (vs.take k ++ v :: vs.drop k) = (ns.zip vs).take k ++ (n, v) :: (ns.zip vs).drop k := by
 induction k with
 | zero => intro ns vs n v _; simp
 | succ k ih =>
   intro ns vs n v hl
   match ns, vs, hl with
   | [], [], _ => simp
   | x :: ns, y :: vs, hl =>
     simp only [List.take_succ_cons, List.drop_succ_cons, List.cons_append, List.zip_cons_cons]
     rw [ih n v (by simpa using hl)]
theorem ownsRow_low {w : World} {B B' : Nat} {e : TypeId} {size : Nat} {v : Value} {n : Nat} {xs : List Value} (hB : B' ≤ B) (h : w.ownsRow B e size v n xs) : w.ownsRow B' e size v n xs :=
 ⟨h.1, h.2.imp_right fun ⟨g, cap, cur, h1, h2, h3⟩ => ⟨g, cap, cur, h1, Nat.le_trans hB h2, h3⟩⟩
theorem xiCells_app (a b : List XI) : xiCells (a ++ b) = xiCells a ++ xiCells b := by simp [xiCells]
theorem xiCells_cons (x : XI) (b : List XI) : xiCells (x :: b) = x.1.cells ++ xiCells b := by simp [xiCells]
theorem strs_cell {w : World} {B n nc : Nat} {na : Option Addr} {ns : List ByteArray} (h : w.ownsRow B 9 1 (.slice na n nc) n (ns.map Value.string)) {j : Nat} {s : ByteArray} (hj : ns[j]? = some s) : ∃ g, na = some ⟨g, 0, none⟩ ∧ w.cell? ⟨g, j, none⟩ = some (.string s) := by
 have hjl := (List.getElem?_eq_some_iff.1 hj).1
 have hh := h
 rcases h.2 with ⟨-, rfl⟩ | ⟨g, cap, cur, e, -⟩
 · have := h.1
   simp at this
   subst this
   simp at hjl
 · simp only [Value.slice.injEq] at e
   obtain ⟨rfl, -⟩ := e
   refine ⟨g, rfl, ?_⟩
   have := World.ownsRow.cells hh (g := g) rfl j (.string s) (by rw [List.getElem?_map, hj]; rfl)
   rwa [add_zero_at] at this
set_option maxHeartbeats 16000000 in
theorem wobj_any {w : World} {r d : Nat} {s : ByteArray} {m : Mk} {ms : List Lx} {c : Nat} (deep : Int) (hd0 : 0 ≤ deep) (hd1 : deep ≤ 12) (hs : s.size ≤ 65536) (hV : WVal s r d (deep + 1)) (h : WSt w r s m ms c) (hk : m.k ≠ 11) (hc : c ≤ 8192) (R : PR JV) (hR : Hid (objP (valP d) ms c = R)) :
   Calls Tryz.prog 72 #[.pointer (some ⟨r, 0, none⟩), .int .i64 deep] w (WPost R s r w) := by
 have hlt := h.lt
 have hrb0 : BlkAt ((w.alloc (.cells zeroCs 26)).alloc (.cells #[.int .u8 5, .int .i64 0, .string ⟨#[]⟩, .slice none 0 0, .slice none 0 0] 26)) w.heap.size 26 zeroCs := (blkAt_new w zeroCs _).alloc _
 have hvb0 : BlkAt ((w.alloc (.cells zeroCs 26)).alloc (.cells #[.int .u8 5, .int .i64 0, .string ⟨#[]⟩, .slice none 0 0, .slice none 0 0] 26)) (w.heap.size + 1) 26 #[.int .u8 5, .int .i64 0, .string ⟨#[]⟩, .slice none 0 0, .slice none 0 0] := by
   have := blkAt_new (w.alloc (.cells zeroCs 26)) #[.int .u8 5, .int .i64 0, .string ⟨#[]⟩, .slice none 0 0, .slice none 0 0] 26
   rwa [size_al] at this
 have hb0 : Below w.heap.size w ((w.alloc (.cells zeroCs 26)).alloc (.cells #[.int .u8 5, .int .i64 0, .string ⟨#[]⟩, .slice none 0 0, .slice none 0 0] 26)) := bel_alloc (bel_alloc (Below.refl _ _) _) _
 have hs0 : (((w.alloc (.cells zeroCs 26)).alloc (.cells #[.int .u8 5, .int .i64 0, .string ⟨#[]⟩, .slice none 0 0, .slice none 0 0] 26))).heap.size = w.heap.size + 2 := by rw [size_al, size_al]
 match ms with
 | [] => exact absurd h.nonil hk
 | .err p e :: tl =>
   have hr := hR.out
   subst hr
   have HN := Lib.hid (wnext_err hs (h.keep hb0) hk (Lib.hid rfl))
   have HRB := Lib.hid hrb0
   have HB0 := Lib.hid hb0
   clear hR h hb0 hrb0 hvb0 hs0
   go_enter Tryz.func72, Tryz.ntmps72
   go_wp2_with fail
   refine HN.out.mono ?_
   rintro e' w' ⟨rfl, hg, hb⟩
   obtain ⟨z0, z1, z2, z3, z4, zf⟩ := blk5 (HRB.out.grown hg (by intro e; cases e; omega))
   have hg' : w.grownBy w' (some r) := (grown_of HB0.out _).trans hg
   go_wp2_with fail
   exact bodyPost_ret (v := .tuple #[zeroV, .bool false]) (by simp [results, Tryz.results72, go_sem, zeroV, z0, z1, z2, z3, z4]) rfl ⟨grown_set5 hg' (Nat.le_refl _) _ _ _ _ _, rfl, hb.same (heap_set5 _ _ _ _ _ _ _ _ (by omega))⟩
 | .tok m2 :: r2 =>
   have HN := Lib.hid (wnext_tok hs (h.keep hb0) hk (Lib.hid rfl))
   have HRB := Lib.hid hrb0
   have HVB := Lib.hid hvb0
   have HB0 := Lib.hid hb0
   have HS0 := Lib.hid hs0
   have hr := hR.out
   unfold objP at hr
   dsimp only [nextL] at hr
   by_cases h4 : m2.k = 2
   · rw [if_pos h4] at hr
     subst hr
     have hb4 : (m2.k == 2) = true := by rw [h4]; rfl
     have h11 : m2.k ≠ 11 := by omega
     clear hR h hb0 hrb0 hvb0 hs0 h4
     go_enter Tryz.func72, Tryz.ntmps72
     go_wp2_with fail
     refine HN.out.mono ?_
     rintro e' w' ⟨rfl, hg, hst⟩
     obtain ⟨z0, z1, z2, z3, z4, zf⟩ := blk5 (HRB.out.grown hg (by intro e; cases e; omega))
     obtain ⟨y0, y1, y2, y3, y4, yf⟩ := blk5 (HVB.out.grown hg (by intro e; cases e; omega))
     have hg' : w.grownBy w' (some r) := (grown_of HB0.out _).trans hg
     have hkc := hst.kcell
     have HST := Lib.hid hst
     clear hst
     go_wp2_with fail
     exact bodyPost_ret (v := .tuple #[.agg #[.int .u8 5, .int .i64 0, .string ⟨#[]⟩, .slice none 0 0, .slice none 0 0], .bool true]) (by simp [results, Tryz.results72, go_sem, z0, z1, z2, z3, z4]) rfl ⟨grown_set5 hg' (Nat.le_refl _) _ _ _ _ _, ⟨5, 0, ⟨#[]⟩, none, 0, 0, none, 0, 0⟩, m2, rfl, valAt_leaf _ 5 0 ⟨#[]⟩ (by decide) (by decide) (by decide) (by decide) (by decide), HST.out.same (heap_set5 _ _ _ _ _ _ _ _ (by omega)), h11⟩
   · rw [if_neg h4] at hr
     have HRR : Hid (membersP (valP d) (r2.length + 1) m2 r2 c [] = R) := hr
     have hb4 : (m2.k == 2) = false := beq_eq_false_iff_ne.2 h4
     obtain ⟨i0, hi, hz0, hz1, hz2⟩ := info_parts infoVal
     have HJ := Lib.hid hi
     have HJ0 := Lib.hid hz0
     have HJ1 := Lib.hid hz1
     have HJ2 := Lib.hid hz2
     clear hi hz0 hz1 hz2
     obtain ⟨j0, hi, hz0, hz1, hz2⟩ := info_parts infoStr
     have HS := Lib.hid hi
     have HT0 := Lib.hid hz0
     have HT1 := Lib.hid hz1
     have HT2 := Lib.hid hz2
     clear hr hR h hb0 hrb0 hvb0 hs0 h4 hi hz0 hz1 hz2
     go_enter Tryz.func72, Tryz.ntmps72
     go_wp2_with fail
     refine HN.out.mono ?_
     rintro e' w' ⟨rfl, hg, hst⟩
     have HZB : Hid (BlkAt w' w.heap.size 26 zeroCs) := HRB.out.grown hg (by intro e; cases e; omega)
     have HYB : Hid (BlkAt w' (w.heap.size + 1) 26 #[.int .u8 5, .int .i64 0, .string ⟨#[]⟩, .slice none 0 0, .slice none 0 0]) := HVB.out.grown hg (by intro e; cases e; omega)
     have hg' : w.grownBy w' (some r) := (grown_of HB0.out _).trans hg
     have hs2 : w.heap.size + 2 ≤ w'.heap.size := by have := hg.size; rw [HS0.out] at this; exact this
     have hkc := hst.kcell
     have HST := Lib.hid hst
     clear hst hg HN HRB HVB HB0 HS0
     go_wp2_with fail
     clear hkc
     go_loopg [7, 8, 9, 10, 11, 12] r2.length (fun gk u1 u2 u3 u4 u5 u6 wr => ∃ (mk : Mk) (ms' : List Lx) (c' : Nat) (acc : List Mem) (ns : List ByteArray) (xs : List XI) (na : Option Addr) (nc : Nat) (a : Option Addr) (cp f n : Nat), gk = ms'.length ∧ ms'.length < f ∧ n ≤ c' ∧ c' ≤ 8192 ∧ w.heap.size + 2 ≤ wr.heap.size ∧ Hid (ns.length = n ∧ xs.length = n) ∧ Hid (WSt wr r s mk ms' c') ∧ Hid (BlkAt wr w.heap.size 26 zeroCs) ∧
       Hid (BlkAt wr (w.heap.size + 1) 26 #[.int .u8 5, .int .i64 0, .string ⟨#[]⟩, .slice na n nc, .slice a n cp]) ∧ Hid (wr.ownsRow (w.heap.size + 2) 9 1 (.slice na n nc) n (ns.map Value.string)) ∧ Hid (ItemsOwn wr (w.heap.size + 2) (.slice a n cp) xs) ∧ Hid (w.grownBy wr (some r)) ∧ Hid (ns.zip (xs.map Prod.snd) = sortM acc) ∧ Hid (∀ s ∈ ns, s.size ≤ 4096) ∧ Hid (membersP (valP d) f mk ms' c' acc = R))
     case atStart => exact ⟨m2, r2, c, [], [], [], none, 0, none, 0, r2.length + 1, 0, rfl, by omega, by simp, hc, hs2, ⟨rfl, rfl⟩, HST, HZB, HYB, World.ownsRow_nil _ _ _ _, ItemsOwn.nil _ _, hg', rfl, (by show ∀ s ∈ ([] : List ByteArray), _; simp), HRR⟩
     case round =>
       obtain ⟨mk, ms', c', acc, ns, xs, na, nc, a, cp, f, n, rfl, hf, hnc, hc', hs3, HLen, HSt, HZb, HYb, HNs, HIt, HGr, HZip, HSz, HRr⟩ := hrel
       clear HST HZB HYB hg' HRR hs2
       obtain ⟨f', rfl⟩ : ∃ f', f = f' + 1 := ⟨f - 1, by omega⟩
       have hstep := HRr.out
       rw [membersP] at hstep
       obtain ⟨-, -, -, y3, y4, yf⟩ := blk5 HYb.out
       obtain ⟨c1, -, c5, -, cf⟩ := HSt.out.cells
       by_cases h10 : mk.k ≠ 10
       · rw [if_pos h10] at hstep
         obtain ⟨v, hv⟩ : ∃ v, wrongE mk 3 = v := ⟨_, rfl⟩
         rw [hv] at hstep
         subst hstep
         have hb : (mk.k != 10) = true := by rw [bne_iff_ne]; exact h10
         have HBD := Lib.hid (wbad_any HSt.out 3 v hv)
         clear h10 hv HRr
         go_wp2_with fail
         refine HBD.out.mono ?_
         rintro e' wq ⟨rfl, hgq, hbad⟩
         have hsq := hgq.size
         obtain ⟨z0, z1, z2, z3, z4, zf⟩ := blk5 (HZb.out.grown hgq (by intro e; cases e; omega))
         have hgr := HGr.out.trans hgq
         simp only [zeroV]
         go_wp2_with fail
         exact bodyPost_ret (v := .tuple #[zeroV, .bool false]) (by simp [results, Tryz.results72, go_sem, zeroV, z0, z1, z2, z3, z4]) rfl ⟨grown_set5 hgr (Nat.le_refl _) _ _ _ _ _, rfl, hbad.same (heap_set5 _ _ _ _ _ _ _ _ (by omega))⟩
       · rw [if_neg h10] at hstep
         have h10' : mk.k = 10 := by omega
         have hb : (mk.k != 10) = false := by rw [h10']; rfl
         obtain ⟨nm, hnm⟩ : ∃ nm : ByteArray, mk.name = nm := ⟨_, rfl⟩
         have hnm2 : (⟨mk.t.toArray⟩ : ByteArray) = nm := hnm
         rw [hnm] at hstep
         rw [hnm2] at c5
         have hnmz : nm.size ≤ 4096 := by rw [← hnm2]; exact HSt.out.b.2.2
         have HNM := Lib.hid hnmz
         have hsort := sortM_sorted acc
         have hperm := sortM_perm acc
         rw [← HZip.out] at hsort hperm
         obtain ⟨K, hK⟩ : ∃ K, insK nm (ns.zip (xs.map Prod.snd)) = K := ⟨_, rfl⟩
         have hzl : (ns.zip (xs.map Prod.snd)).length = n := by rw [List.length_zip, List.length_map, HLen.out.1, HLen.out.2, Nat.min_self]
         have hKn := insK_le nm (ns.zip (xs.map Prod.snd))
         rw [hK, hzl] at hKn
         have hLT : ∀ j, j < K → ∃ y, ns[j]? = some y ∧ nmLt y nm = true := fun j hj => by
           obtain ⟨y, hy⟩ : ∃ y, (ns.zip (xs.map Prod.snd))[j]? = some y := ⟨_, List.getElem?_eq_getElem (by omega)⟩
           exact ⟨y.1, (List.getElem?_zip_eq_some.1 hy).1, insK_lt nm _ j y hy (by rw [hK]; exact hj)⟩
         have HLT := Lib.hid hLT
         have hAT := hasN_at hsort nm
         rw [hK, hasN_perm hperm nm] at hAT
         have hGE : K < n → ∃ y, ns[K]? = some y ∧ nmLt y nm = false ∧ (y = nm ↔ hasN acc nm = true) := fun hKl => by
           obtain ⟨y, hy⟩ : ∃ y, (ns.zip (xs.map Prod.snd))[K]? = some y := ⟨_, List.getElem?_eq_getElem (by omega)⟩
           refine ⟨y.1, (List.getElem?_zip_eq_some.1 hy).1, insK_ge nm _ y (by rw [hK]; exact hy), ?_⟩
           rw [hAT]
           exact ⟨fun e => ⟨y, hy, e⟩, fun ⟨z, hz, e⟩ => by rw [hy] at hz; cases hz; exact e⟩
         have hNO : ¬ K < n → hasN acc nm = false := fun hKl => by
           cases hh : hasN acc nm with
           | false => rfl
           | true =>
             obtain ⟨y, hy, -⟩ := hAT.1 hh
             have := (List.getElem?_eq_some_iff.1 hy).1
             omega
         have HGE := Lib.hid hGE
         have HNO := Lib.hid hNO
         have HKE := Lib.hid hK
         have HSTEP := Lib.hid hstep
         clear hsort hperm hLT hAT hGE hNO hK hstep HRr hzl h10 hnm hnm2
         go_upto_block 2 with fail
         go_cut [8] from 25 to 159 (fun s8 wx => s8 = .int .i64 K ∧ wr = wx)
         case first =>
           go_wp2_with fail
           go_loop [8] (fun k => ∃ j : Nat, j ≤ K ∧ k = .int .i64 j) (fun k => K - (intOf k).toNat)
           case atStart => exact ⟨0, by omega, rfl⟩
           case round =>
             obtain ⟨j, hj, rfl⟩ := hrel
             by_cases hjK : j < K
             · obtain ⟨y, hy, hlt2⟩ := HLT.out j hjK
               obtain ⟨g, rfl, hcell⟩ := strs_cell HNs.out hy
               have hjn : (j : Int) < (n : Int) := by omega
               unfold nmLt at hlt2
               clear hy
               go_wp2_with fail
               exact ⟨⟨j + 1, by omega, by go_num⟩, by simp [intOf]; omega⟩
             · have hjK2 : j = K := by omega
               subst hjK2
               by_cases hKl : j < n
               · obtain ⟨y, hy, hlt2, -⟩ := HGE.out hKl
                 obtain ⟨g, rfl, hcell⟩ := strs_cell HNs.out hy
                 have hjn : (j : Int) < (n : Int) := by omega
                 unfold nmLt at hlt2
                 clear hy
                 go_wp2_with fail
                 go_meet
                 case rel => exact ⟨rfl, rfl⟩
               · have hjn : ¬ (j : Int) < (n : Int) := by omega
                 go_wp2_with fail
                 go_meet
                 case rel => exact ⟨rfl, rfl⟩
         case rest =>
           obtain ⟨rfl, rfl⟩ := hcut
           obtain ⟨b, hbN⟩ : ∃ b, hasN acc nm = b := ⟨_, rfl⟩
           have HBN := Lib.hid hbN
           rw [hbN] at HGE HNO
           clear hbN
           go_upto_region 12 with fail
           go_cut [69] from 25 to 159 (fun s69 wx => s69 = .bool b ∧ wr = wx)
           case first =>
             by_cases hKl : K < n
             · obtain ⟨y, hy, -, hyn⟩ := HGE.out hKl
               obtain ⟨g, rfl, hcell⟩ := strs_cell HNs.out hy
               have hjn : (K : Int) < (n : Int) := by omega
               clear hy
               cases b with
               | true =>
                 have e := hyn.2 rfl
                 subst e
                 clear hyn
                 go_wp2_with fail
                 go_meet
                 case rel => exact ⟨by simp, rfl⟩
               | false =>
                 have hne3 : y.toList ≠ nm.toList := fun e => by
                   have := hyn.1 (bytes_ext (by rw [← toList_data, ← toList_data, e]))
                   cases this
                 have hne2 : (y.toList == nm.toList) = false := by simp [hne3]
                 clear hyn
                 go_wp2_with fail
                 go_meet
                 case rel => exact ⟨by simp, rfl⟩
             · have hjn : ¬ (K : Int) < (n : Int) := by omega
               have hbf := HNO.out hKl
               subst hbf
               go_wp2_with fail
               go_meet
               case rel => exact ⟨rfl, rfl⟩
           case rest =>
             obtain ⟨rfl, rfl⟩ := hcut
             have hfin := HSTEP.out
             rw [HBN.out] at hfin
             clear HGE HNO HLT HSTEP
             cases b with
             | true =>
               rw [if_pos rfl] at hfin
               subst hfin
               have h7 : wrongE mk 7 = 7 := by unfold wrongE; rw [if_neg (by omega)]
               have HBD := Lib.hid (wbad_any HSt.out 7 7 h7)
               clear h7
               go_wp2_with fail
               refine HBD.out.mono ?_
               rintro e' wq ⟨rfl, hgq, hbad⟩
               have hsq := hgq.size
               obtain ⟨z0, z1, z2, z3, z4, zf⟩ := blk5 (HZb.out.grown hgq (by intro e; cases e; omega))
               have hgr := HGr.out.trans hgq
               simp only [zeroV]
               go_wp2_with fail
               exact bodyPost_ret (v := .tuple #[zeroV, .bool false]) (by simp [results, Tryz.results72, go_sem, zeroV, z0, z1, z2, z3, z4]) rfl ⟨grown_set5 hgr (Nat.le_refl _) _ _ _ _ _, rfl, hbad.same (heap_set5 _ _ _ _ _ _ _ _ (by omega))⟩
             | false =>
               rw [if_neg (by decide)] at hfin
               have HSTEP2 := Lib.hid hfin
               clear hfin
               match ms' with
               | [] => exact absurd HSt.out.nonil (by omega)
               | .err p e :: tl =>
                 have hfin := HSTEP2.out
                 dsimp only [nextL] at hfin
                 subst hfin
                 have HNX := Lib.hid (wnext_err hs HSt.out (by omega) (Lib.hid rfl))
                 go_wp2_with fail
                 refine HNX.out.mono ?_
                 rintro e' wq ⟨rfl, hgq, hbad⟩
                 have hsq := hgq.size
                 obtain ⟨z0, z1, z2, z3, z4, zf⟩ := blk5 (HZb.out.grown hgq (by intro e; cases e; omega))
                 have hgr := HGr.out.trans hgq
                 go_wp2_with fail
                 exact bodyPost_ret (v := .tuple #[zeroV, .bool false]) (by simp [results, Tryz.results72, go_sem, zeroV, z0, z1, z2, z3, z4]) rfl ⟨grown_set5 hgr (Nat.le_refl _) _ _ _ _ _, rfl, hbad.same (heap_set5 _ _ _ _ _ _ _ _ (by omega))⟩
               | .tok m2 :: r2 =>
                 have hfin := HSTEP2.out
                 dsimp only [nextL] at hfin
                 have HNX := Lib.hid (wnext_tok hs HSt.out (by omega) (Lib.hid rfl))
                 go_wp2_with fail
                 refine HNX.out.mono ?_
                 rintro e' w2 ⟨rfl, hg2, hst2⟩
                 have hs5 := hg2.size
                 have HNE : Hid (∀ W : World, W.ownsRow (w.heap.size + 2) 9 1 (.slice na n nc) n (ns.map Value.string) → ((Value.slice na n nc).ownBlock = none ∨ (Value.slice na n nc).ownBlock ≠ some r)) := fun W hW => by
                   by_cases e : (Value.slice na n nc).ownBlock = none
                   · exact .inl e
                   · exact .inr (fun e2 => by have := (World.ownsRow.lt hW r e2).1; omega)
                 have HZ2 : Hid (BlkAt w2 w.heap.size 26 zeroCs) := HZb.out.grown hg2 (by intro e; cases e; omega)
                 have HY2 : Hid (BlkAt w2 (w.heap.size + 1) 26 #[.int .u8 5, .int .i64 0, .string ⟨#[]⟩, .slice na n nc, .slice a n cp]) := HYb.out.grown hg2 (by intro e; cases e; omega)
                 have HNs2 : Hid (w2.ownsRow (w.heap.size + 2) 9 1 (.slice na n nc) n (ns.map Value.string)) := HNs.out.kept hg2 (HNE.out _ HNs.out)
                 have HI2 : Hid (ItemsOwn w2 (w.heap.size + 2) (.slice a n cp) xs) := HIt.out.kept (by omega) hg2
                 have HG2 : Hid (w.grownBy w2 (some r)) := HGr.out.trans hg2
                 have hkc2 := hst2.kcell
                 have HST2 := Lib.hid hst2
                 clear hg2 hst2 HZb HYb HNs HIt HGr HSt y3 y4 yf c1 c5 cf HNX
                 by_cases h6 : m2.k ≠ 6
                 · rw [if_pos h6] at hfin
                   obtain ⟨v, hv⟩ : ∃ v, wrongE m2 3 = v := ⟨_, rfl⟩
                   rw [hv] at hfin
                   subst hfin
                   have hb6 : (m2.k != 6) = true := by rw [bne_iff_ne]; exact h6
                   have HBD := Lib.hid (wbad_any HST2.out 3 v hv)
                   clear h6 hv HSTEP2
                   go_wp2_with fail
                   refine HBD.out.mono ?_
                   rintro e' wq ⟨rfl, hgq, hbad⟩
                   have hsq := hgq.size
                   obtain ⟨z0, z1, z2, z3, z4, zf⟩ := blk5 (HZ2.out.grown hgq (by intro e; cases e; omega))
                   have hgr := HG2.out.trans hgq
                   simp only [zeroV]
                   go_wp2_with fail
                   exact bodyPost_ret (v := .tuple #[zeroV, .bool false]) (by simp [results, Tryz.results72, go_sem, zeroV, z0, z1, z2, z3, z4]) rfl ⟨grown_set5 hgr (Nat.le_refl _) _ _ _ _ _, rfl, hbad.same (heap_set5 _ _ _ _ _ _ _ _ (by omega))⟩
                 · rw [if_neg h6] at hfin
                   have hb6 : (m2.k != 6) = false := by rw [show m2.k = 6 by omega]; rfl
                   have h11 : m2.k ≠ 11 := by omega
                   match r2 with
                   | [] => exact absurd HST2.out.nonil h11
                   | .err p e :: tl =>
                     dsimp only at hfin
                     subst hfin
                     have HNX := Lib.hid (wnext_err hs HST2.out h11 (Lib.hid rfl))
                     clear h6
                     go_wp2_with fail
                     refine HNX.out.mono ?_
                     rintro e' wq ⟨rfl, hgq, hbad⟩
                     have hsq := hgq.size
                     obtain ⟨z0, z1, z2, z3, z4, zf⟩ := blk5 (HZ2.out.grown hgq (by intro e; cases e; omega))
                     have hgr := HG2.out.trans hgq
                     go_wp2_with fail
                     exact bodyPost_ret (v := .tuple #[zeroV, .bool false]) (by simp [results, Tryz.results72, go_sem, zeroV, z0, z1, z2, z3, z4]) rfl ⟨grown_set5 hgr (Nat.le_refl _) _ _ _ _ _, rfl, hbad.same (heap_set5 _ _ _ _ _ _ _ _ (by omega))⟩
                   | .tok m3 :: r3 =>
                     dsimp only at hfin
                     have HNX := Lib.hid (wnext_tok hs HST2.out h11 (Lib.hid rfl))
                     clear h6 HSTEP2
                     go_wp2_with fail
                     refine HNX.out.mono ?_
                     rintro e' w3 ⟨rfl, hg3, hst3⟩
                     have hs6 := hg3.size
                     have HZ3 : Hid (BlkAt w3 w.heap.size 26 zeroCs) := HZ2.out.grown hg3 (by intro e; cases e; omega)
                     have HY3 : Hid (BlkAt w3 (w.heap.size + 1) 26 #[.int .u8 5, .int .i64 0, .string ⟨#[]⟩, .slice na n nc, .slice a n cp]) := HY2.out.grown hg3 (by intro e; cases e; omega)
                     have HNs3 : Hid (w3.ownsRow (w.heap.size + 2) 9 1 (.slice na n nc) n (ns.map Value.string)) := HNs2.out.kept hg3 (HNE.out _ HNs2.out)
                     have HI3 : Hid (ItemsOwn w3 (w.heap.size + 2) (.slice a n cp) xs) := HI2.out.kept (by omega) hg3
                     have HG3 : Hid (w.grownBy w3 (some r)) := HG2.out.trans hg3
                     obtain ⟨R1, hR1⟩ : ∃ R1, valP d m3 r3 c' = R1 := ⟨_, rfl⟩
                     have HC := Lib.hid (hV w3 m3 r3 c' hst3 hc')
                     rw [hR1] at HC
                     have hfin3 := hfin
                     rw [hR1] at hfin3
                     clear hg3 hst3 HZ2 HY2 HNs2 HI2 HG2 HST2 hkc2 HNX hfin
                     cases R1 with
                     | bad p er =>
                       dsimp only at hfin3
                       subst hfin3
                       clear hR1
                       go_wp2_with fail
                       refine HC.out.mono ?_
                       rintro e' w4 ⟨hg4, rfl, hbad⟩
                       have hs7 := hg4.size
                       obtain ⟨z0, z1, z2, z3, z4, zf⟩ := blk5 ((HZ3.out.grown hg4 (by intro e; cases e; omega)).alloc (.cells #[.int .u8 0, .int .i64 0, .string ⟨#[]⟩, .slice none 0 0, .slice none 0 0] 26))
                       have hgr := HG3.out.trans hg4
                       simp only [zeroV]
                       go_wp2_with fail
                       have hr1 : r < w4.heap.size := by omega
                       exact bodyPost_ret (v := .tuple #[zeroV, .bool false]) (by simp [results, Tryz.results72, go_sem, zeroV, z0, z1, z2, z3, z4]) rfl ⟨grown_set5 (grown_alloc hgr _) (Nat.le_refl _) _ _ _ _ _, rfl, hbad.same ((heap_set5 _ _ _ _ _ _ _ _ (by omega)).trans ((bel_alloc (Below.refl w4.heap.size w4) _).block r hr1))⟩
                     | ok V ms1 c1 =>
                       dsimp only at hfin3
                       obtain ⟨hcnt1, hcnt2⟩ := val_count d _ _ _ _ _ _ hR1
                       obtain ⟨pre1, -, hpre, -⟩ := val_takes d _ _ _ _ _ _ hR1
                       have hml : r3.length = pre1.length + ms1.length := by rw [hpre, List.length_append]
                       have HML := Lib.hid hml
                       have HF3 := Lib.hid hfin3
                       clear hR1 hpre hml hfin3
                       go_wp2_with fail
                       refine HC.out.mono ?_
                       rintro e' w4 ⟨hg4, ⟨xk, xn, xt, xa, xl, xc, xb, xm, xe⟩, m1, rfl, hnew, hst4, hk4⟩
                       simp only [VC.val]
                       have hs7 := hg4.size
                       have hbA : Below w4.heap.size w4 (w4.alloc (.cells #[.int .u8 xk, .int .i64 xn, .string xt, .slice xa xl xc, .slice xb xm xe] 26)) := bel_alloc (Below.refl _ _) _
                       have HZ4 : Hid (BlkAt (w4.alloc (.cells #[.int .u8 xk, .int .i64 xn, .string xt, .slice xa xl xc, .slice xb xm xe] 26)) w.heap.size 26 zeroCs) := (HZ3.out.grown hg4 (by intro e; cases e; omega)).alloc _
                       have HY4 : Hid (BlkAt (w4.alloc (.cells #[.int .u8 xk, .int .i64 xn, .string xt, .slice xa xl xc, .slice xb xm xe] 26)) (w.heap.size + 1) 26 #[.int .u8 5, .int .i64 0, .string ⟨#[]⟩, .slice na n nc, .slice a n cp]) := (HY3.out.grown hg4 (by intro e; cases e; omega)).alloc _
                       have HX4 : Hid (BlkAt (w4.alloc (.cells #[.int .u8 xk, .int .i64 xn, .string xt, .slice xa xl xc, .slice xb xm xe] 26)) w4.heap.size 26 #[.int .u8 xk, .int .i64 xn, .string xt, .slice xa xl xc, .slice xb xm xe]) := blkAt_new w4 _ _
                       have HI4 : Hid (ItemsOwn w4 (w.heap.size + 2) (.slice a n cp) xs) := HI3.out.kept (by omega) hg4
                       have HNs4 : Hid ((w4.alloc (.cells #[.int .u8 xk, .int .i64 xn, .string xt, .slice xa xl xc, .slice xb xm xe] 26)).ownsRow (w.heap.size + 2) 9 1 (.slice na n nc) n (ns.map Value.string)) := (HNs3.out.kept hg4 (HNE.out _ HNs3.out)).alloc _
                       have HG4 : Hid (w.grownBy (w4.alloc (.cells #[.int .u8 xk, .int .i64 xn, .string xt, .slice xa xl xc, .slice xb xm xe] 26)) (some r)) := grown_alloc (HG3.out.trans hg4) _
                       have HGq := Lib.hid hg4
                       have HG45 := Lib.hid (grown_of hbA (some r))
                       have hst5 := hst4.keep hbA
                       have HNew := Lib.hid hnew
                       have hsA : (w4.alloc (.cells #[.int .u8 xk, .int .i64 xn, .string xt, .slice xa xl xc, .slice xb xm xe] 26)).heap.size = w4.heap.size + 1 := size_al _ _
                       have HWA := Lib.hid (show ∀ k, k < w4.heap.size → (w4.alloc (.cells #[.int .u8 xk, .int .i64 xn, .string xt, .slice xa xl xc, .slice xb xm xe] 26)).heap[k]? = w4.heap[k]? from fun k hk => hbA.block k hk)
                       clear hg4 hnew HC hst4 hbA
                       match ms1 with
                       | [] => exact absurd hst5.nonil hk4
                       | .err p e :: tl =>
                         have hfin := HF3.out
                         dsimp only [moreP, nextL] at hfin
                         subst hfin
                         have HNX := Lib.hid (wnext_err hs hst5 hk4 (Lib.hid rfl))
                         clear hst5
                         go_wp2_with fail
                         generalize w4.alloc (.cells #[.int .u8 xk, .int .i64 xn, .string xt, .slice xa xl xc, .slice xb xm xe] 26) = wA at HNX HZ4 HG4 hsA ⊢
                         refine HNX.out.mono ?_
                         rintro e' wq ⟨rfl, hgq, hbad⟩
                         have hsq := hgq.size
                         obtain ⟨z0, z1, z2, z3, z4, zf⟩ := blk5 (HZ4.out.grown hgq (by intro e; cases e; omega))
                         have hgr := HG4.out.trans hgq
                         go_wp2_with fail
                         exact bodyPost_ret (v := .tuple #[zeroV, .bool false]) (by simp [results, Tryz.results72, go_sem, zeroV, z0, z1, z2, z3, z4]) rfl ⟨grown_set5 hgr (Nat.le_refl _) _ _ _ _ _, rfl, hbad.same (heap_set5 _ _ _ _ _ _ _ _ (by omega))⟩
                       | .tok m4 :: r4 =>
                         have hfin := HF3.out
                         dsimp only [moreP, nextL] at hfin
                         have HFIN := Lib.hid hfin
                         have HNX := Lib.hid (wnext_tok hs hst5 hk4 (Lib.hid rfl))
                         clear hst5 hfin HF3
                         go_wp2_with fail
                         generalize w4.alloc (.cells #[.int .u8 xk, .int .i64 xn, .string xt, .slice xa xl xc, .slice xb xm xe] 26) = wA at HNX HZ4 HY4 HX4 HNs4 HG4 hsA HWA HG45 ⊢
                         refine HNX.out.mono ?_
                         rintro e' w5 ⟨rfl, hg5, hst5⟩
                         have hs8 := hg5.size
                         have HZ5 : Hid (BlkAt w5 w.heap.size 26 zeroCs) := HZ4.out.grown hg5 (by intro e; cases e; omega)
                         have HY5 : Hid (BlkAt w5 (w.heap.size + 1) 26 #[.int .u8 5, .int .i64 0, .string ⟨#[]⟩, .slice na n nc, .slice a n cp]) := HY4.out.grown hg5 (by intro e; cases e; omega)
                         have HX5 : Hid (BlkAt w5 w4.heap.size 26 #[.int .u8 xk, .int .i64 xn, .string xt, .slice xa xl xc, .slice xb xm xe]) := HX4.out.grown hg5 (by intro e; cases e; omega)
                         have HNs5 : Hid (w5.ownsRow (w.heap.size + 2) 9 1 (.slice na n nc) n (ns.map Value.string)) := HNs4.out.kept hg5 (HNE.out _ HNs4.out)
                         have HG5 : Hid (w.grownBy w5 (some r)) := HG4.out.trans hg5
                         have HST5 := Lib.hid hst5
                         have HI5 : Hid (ItemsOwn w5 (w.heap.size + 2) (.slice a n cp) xs) := HI4.out.kept (by omega) (HG45.out.trans hg5)
                         have HWB := Lib.hid (show ∀ k, k < w4.heap.size → w.heap.size + 2 ≤ k → w5.heap[k]? = w4.heap[k]? from fun k hk hk2 => (hg5.block k (by omega) (fun e => by cases e; omega)).trans (HWA.out k hk))
                         have hs85 : w4.heap.size + 1 ≤ w5.heap.size := by omega
                         clear hg5 hst5 HZ4 HY4 HX4 HNs4 HG4 HWA hsA hs8
                         obtain ⟨x0, x1, x2, x3, x4, -⟩ := blk5 HX5.out
                         obtain ⟨-, -, -, y3, y4, yf⟩ := blk5 HY5.out
                         go_wp2_with fail
                         have hnnc : n ≤ nc := by
                           rcases HNs5.out.2 with ⟨e, -⟩ | ⟨q, cap, cur, e, -, -, hq, -⟩
                           · simp only [Value.slice.injEq] at e; omega
                           · simp only [Value.slice.injEq] at e; omega
                         have hj0 : (0 : Int) ≤ (K : Int) := by omega
                         have hjn2 : (K : Int) ≤ (n : Int) := by omega
                         have hjn3 : (K : Int) ≤ (nc : Int) := by omega
                         have hjn4 : (n : Int) ≤ (nc : Int) := by omega
                         go_cut [8, 11] from 25 to 159 (fun s8 s11 wx => s8 = .int .i64 K ∧ ∃ g3 nc3, s11 = .slice (some ⟨g3, 0, none⟩) (n + 1) nc3 ∧ w5.heap.size ≤ g3 ∧ Below w5.heap.size w5 wx ∧ Hid (wx.ownsRow w5.heap.size 9 1 (.slice (some ⟨g3, 0, none⟩) (n + 1) nc3) (n + 1) ((ns.take K ++ nm :: ns.drop K).map Value.string)))
                         case first =>
                           cases na with
                           | some ga =>
                             obtain ⟨g, rfl⟩ : ∃ g, ga = ⟨g, 0, none⟩ := by
                               rcases HNs5.out.2 with ⟨e, -⟩ | ⟨q, cap, cur, e, -⟩
                               · simp at e
                               · simp only [Value.slice.injEq, Option.some.injEq] at e
                                 exact ⟨q, e.1⟩
                             have HL1 := Lib.hid (show ((ns.take K).map Value.string).length = K * 1 by rw [List.length_map, List.length_take, HLen.out.1]; omega)
                             have HL3 := Lib.hid (show ((ns.drop K).map Value.string).length = (n - K) * 1 by rw [List.length_map, List.length_drop, HLen.out.1]; omega)
                             have HO1 := Lib.hid (show ∀ l : List ByteArray, ∀ u ∈ l.map Value.string, u.oneCell' = true from fun l u hu => by obtain ⟨s, -, rfl⟩ := List.mem_map.1 hu; rfl)
                             have HN1 := Lib.hid (show ∀ W : World, Below w5.heap.size w5 W → ∀ (i : Nat) (u : Value), ((ns.take K).map Value.string)[i]? = some u → ∃ ad, some (⟨g, 0, none⟩ : Addr) = some ad ∧ W.cell? (ad.add i) = some u from fun W hW i u hu => by
                               rw [List.getElem?_map] at hu
                               obtain ⟨s, hs2, rfl⟩ := Option.map_eq_some_iff.1 hu
                               rw [List.getElem?_take] at hs2
                               split at hs2
                               · obtain ⟨g', e, hc⟩ := strs_cell HNs5.out hs2
                                 cases e
                                 exact ⟨_, rfl, by rw [add_zero_at]; exact cell_keep hW hc⟩
                               · cases hs2)
                             have HN3 := Lib.hid (show ∀ W : World, Below w5.heap.size w5 W → ∀ (i : Nat) (u : Value), ((ns.drop K).map Value.string)[i]? = some u → W.cell? ⟨g, K + i, none⟩ = some u from fun W hW i u hu => by
                               rw [List.getElem?_map] at hu
                               obtain ⟨s, hs2, rfl⟩ := Option.map_eq_some_iff.1 hu
                               rw [List.getElem?_drop] at hs2
                               obtain ⟨g', e, hc⟩ := strs_cell HNs5.out hs2
                               cases e
                               exact cell_keep hW hc)
                             have HN3b := Lib.hid (show ∀ W : World, Below w5.heap.size w5 W → ∀ (i : Nat) (u : Value), ((ns.drop K).map Value.string)[i]? = some u → ∃ ad, (if nc = K then some (⟨g, 0, none⟩ : Addr) else some ⟨g, K, none⟩) = some ad ∧ W.cell? (ad.add i) = some u from fun W hW i u hu => by
                               have h3 := HN3.out W hW i u hu
                               by_cases hcj : nc = K
                               · have : (ns.drop K).length = 0 := by rw [List.length_drop, HLen.out.1]; omega
                                 rw [List.length_eq_zero_iff.1 this] at hu
                                 simp at hu
                               · rw [if_neg hcj]
                                 exact ⟨_, rfl, by rw [Addr.add_lit]; exact h3⟩)
                             go_region_held_law (fun w' => Below w5.heap.size w5 w' ∧ w'.cell? ⟨w.heap.size + 1, 3, none⟩ = some (.slice (some ⟨g, 0, none⟩) n nc))
                               ((refine (fun h => ⟨h, cell_keep h y3⟩ : Below w5.heap.size w5 _ → _) ?_; (repeat (first | exact Below.refl _ _ | assumption | refine bel_drew ?_ | refine bel_alloc ?_ _ | refine bel_set ?_ (Nat.le_refl _) _ | refine below_more ?_ (by assumption)))))
                               (first
                                 | (refine step_append_any _ rfl _ _ 23 rfl w5.heap.size 9 j0 (.string ⟨#[]⟩) 1 16 Tryz.underlying23 HS.out HT0.out HT1.out HT2.out rfl (by decide) (.slice none 0 0) 0 [] rfl (World.ownsRow_nil _ _ _ _) _ _ _ ((ns.take K).map Value.string) (show _ = Value.slice (some ⟨g, 0, none⟩) K nc from rfl) HL1.out (HN1.out _ (by (repeat (first | exact Below.refl _ _ | assumption | refine bel_drew ?_ | refine bel_alloc ?_ _)))) (HO1.out _) (by unfold maxLen; omega) (by omega) (show Below w5.heap.size w5 _ from (by (repeat (first | exact Below.refl _ _ | assumption | refine bel_drew ?_ | refine bel_alloc ?_ _)))).size ?_; intro v1 w6 hown1 hgr1 hat1; have hnw1 := fun p v (h : World.cell? _ p = some v) => hgr1.cell h (by simp [Value.ownBlock]); have hb6 := Below.grown (show Below w5.heap.size w5 _ from (by (repeat (first | exact Below.refl _ _ | assumption | refine bel_drew ?_ | refine bel_alloc ?_ _)))) hgr1 (show Below w5.heap.size w5 _ from (by (repeat (first | exact Below.refl _ _ | assumption | refine bel_drew ?_ | refine bel_alloc ?_ _)))).size (fun kk hkk => by simp [Value.ownBlock] at hkk))
                                 | ((refine step_append_any _ rfl _ _ 23 rfl w5.heap.size 9 j0 (.string ⟨#[]⟩) 1 16 Tryz.underlying23 HS.out HT0.out HT1.out HT2.out rfl (by decide) v1 (0 + K) ([] ++ (ns.take K).map Value.string) rfl (by first | exact hown1 | exact World.ownsRow.alloc hown1 _) _ _ _ [.string nm] (show _ = Value.slice (some ⟨_, 0, none⟩) 1 1 from rfl) rfl (by intro i u hu; match i, hu with | 0, hu => (cases hu; refine ⟨_, rfl, ?_⟩; rw [add_zero_at]; first | exact cell_al_eq _ _ _ _ _ rfl | exact hnw1 _ _ (cell_al_eq _ _ _ _ _ rfl))) (by intro u hu; simp at hu; subst hu; rfl) (by unfold maxLen; omega) (by omega) (show Below w5.heap.size w5 _ from (by (repeat (first | exact Below.refl _ _ | assumption | refine bel_drew ?_ | refine bel_alloc ?_ _)))).size ?_; intro v2 w7 hown2 hgr2 hat2; have hb7 := Below.grown (show Below w5.heap.size w5 _ from (by (repeat (first | exact Below.refl _ _ | assumption | refine bel_drew ?_ | refine bel_alloc ?_ _)))) hgr2 (show Below w5.heap.size w5 _ from (by (repeat (first | exact Below.refl _ _ | assumption | refine bel_drew ?_ | refine bel_alloc ?_ _)))).size (fun kk hkk => (World.ownsRow.lt hown1 kk hkk).1)))
                                 | ((refine step_append_any _ rfl _ _ 23 rfl w5.heap.size 9 j0 (.string ⟨#[]⟩) 1 16 Tryz.underlying23 HS.out HT0.out HT1.out HT2.out rfl (by decide) v2 (0 + K + 1) ([] ++ (ns.take K).map Value.string ++ [.string nm]) rfl hown2 _ _ _ ((ns.drop K).map Value.string) rfl HL3.out (HN3b.out _ (by (repeat (first | exact Below.refl _ _ | assumption | refine bel_drew ?_ | refine bel_alloc ?_ _)))) (HO1.out _) (by unfold maxLen; omega) (by omega) (show Below w5.heap.size w5 _ from (by (repeat (first | exact Below.refl _ _ | assumption | refine bel_drew ?_ | refine bel_alloc ?_ _)))).size ?_; intro v3 w8 hown3 hgr3 hat3; have hb8 := Below.grown (show Below w5.heap.size w5 _ from (by (repeat (first | exact Below.refl _ _ | assumption | refine bel_drew ?_ | refine bel_alloc ?_ _)))) hgr3 (show Below w5.heap.size w5 _ from (by (repeat (first | exact Below.refl _ _ | assumption | refine bel_drew ?_ | refine bel_alloc ?_ _)))).size (fun kk hkk => (World.ownsRow.lt hown2 kk hkk).1))))
                             all_goals (
                               have e : 0 + K + 1 + (n - K) = n + 1 := by omega
                               rw [e] at hown3
                               clear e
                               obtain ⟨g3, nc3, rfl, hg3, hg3lt⟩ := World.ownsRow.form hown3 (by omega)
                               simp only [List.getElem_toArray, List.getElem_cons_succ, List.getElem_cons_zero, List.setIfInBounds_toArray, List.set_cons_zero, List.set_cons_succ]
                               go_wp2_with fail
                               all_goals (
                                 go_meet
                                 case rel =>
                                   refine ⟨rfl, g3, nc3, rfl, hg3, hb8, ?_⟩
                                   show World.ownsRow _ _ _ _ _ _ _
                                   rw [List.map_append, List.map_cons]
                                   simpa using hown3))
                           | none =>
                             obtain ⟨rfl, rfl⟩ : n = 0 ∧ nc = 0 := by
                               rcases HNs5.out.2 with ⟨e, h0⟩ | ⟨q, cap, cur, e, -⟩
                               · simp only [Value.slice.injEq] at e; exact ⟨h0, e.2.2⟩
                               · simp at e
                             obtain rfl : K = 0 := by omega
                             have hns : ns = [] := List.length_eq_zero_iff.1 HLen.out.1
                             have HNSE := Lib.hid hns
                             clear hns
                             go_region_held_law (fun w' => Below w5.heap.size w5 w' ∧ w'.cell? ⟨w.heap.size + 1, 3, none⟩ = some (.slice none 0 0))
                               ((refine (fun h => ⟨h, cell_keep h y3⟩ : Below w5.heap.size w5 _ → _) ?_; (repeat (first | exact Below.refl _ _ | assumption | refine bel_drew ?_ | refine bel_alloc ?_ _ | refine bel_set ?_ (Nat.le_refl _) _ | refine below_more ?_ (by assumption)))))
                               (first
                                 | (refine step_append_any _ rfl _ _ 23 rfl w5.heap.size 9 j0 (.string ⟨#[]⟩) 1 16 Tryz.underlying23 HS.out HT0.out HT1.out HT2.out rfl (by decide) (.slice none 0 0) 0 [] rfl (World.ownsRow_nil _ _ _ _) _ _ _ [] (show _ = Value.slice none 0 0 from rfl) rfl (fun i u h => by simp at h) (fun u h => by simp at h) (by unfold maxLen; omega) (by omega) (show Below w5.heap.size w5 _ from (by (repeat (first | exact Below.refl _ _ | assumption | refine bel_drew ?_ | refine bel_alloc ?_ _)))).size ?_; intro v1 w6 hown1 hgr1 hat1; have hnw1 := fun p v (h : World.cell? _ p = some v) => hgr1.cell h (by simp [Value.ownBlock]); have hb6 := Below.grown (show Below w5.heap.size w5 _ from (by (repeat (first | exact Below.refl _ _ | assumption | refine bel_drew ?_ | refine bel_alloc ?_ _)))) hgr1 (show Below w5.heap.size w5 _ from (by (repeat (first | exact Below.refl _ _ | assumption | refine bel_drew ?_ | refine bel_alloc ?_ _)))).size (fun kk hkk => by simp [Value.ownBlock] at hkk))
                                 | (refine step_append_any _ rfl _ _ 23 rfl w5.heap.size 9 j0 (.string ⟨#[]⟩) 1 16 Tryz.underlying23 HS.out HT0.out HT1.out HT2.out rfl (by decide) v1 (0 + 0) ([] ++ []) rfl (by first | exact hown1 | exact World.ownsRow.alloc hown1 _) _ _ _ [.string nm] (show _ = Value.slice (some ⟨_, 0, none⟩) 1 1 from rfl) rfl (by intro i u hu; match i, hu with | 0, hu => (cases hu; refine ⟨_, rfl, ?_⟩; rw [add_zero_at]; first | exact cell_al_eq _ _ _ _ _ rfl | exact hnw1 _ _ (cell_al_eq _ _ _ _ _ rfl))) (by intro u hu; simp at hu; subst hu; rfl) (by unfold maxLen; omega) (by omega) (show Below w5.heap.size w5 _ from (by (repeat (first | exact Below.refl _ _ | assumption | refine bel_drew ?_ | refine bel_alloc ?_ _)))).size ?_; intro v2 w7 hown2 hgr2 hat2; have hb7 := Below.grown (show Below w5.heap.size w5 _ from (by (repeat (first | exact Below.refl _ _ | assumption | refine bel_drew ?_ | refine bel_alloc ?_ _)))) hgr2 (show Below w5.heap.size w5 _ from (by (repeat (first | exact Below.refl _ _ | assumption | refine bel_drew ?_ | refine bel_alloc ?_ _)))).size (fun kk hkk => (World.ownsRow.lt hown1 kk hkk).1))
                                 | (refine step_append_any _ rfl _ _ 23 rfl w5.heap.size 9 j0 (.string ⟨#[]⟩) 1 16 Tryz.underlying23 HS.out HT0.out HT1.out HT2.out rfl (by decide) v2 (0 + 0 + 1) ([] ++ [] ++ [.string nm]) rfl hown2 _ _ _ [] (show _ = Value.slice none 0 0 from rfl) rfl (fun i u h => by simp at h) (fun u h => by simp at h) (by unfold maxLen; omega) (by omega) (show Below w5.heap.size w5 _ from (by (repeat (first | exact Below.refl _ _ | assumption | refine bel_drew ?_ | refine bel_alloc ?_ _)))).size ?_; intro v3 w8 hown3 hgr3 hat3; have hb8 := Below.grown (show Below w5.heap.size w5 _ from (by (repeat (first | exact Below.refl _ _ | assumption | refine bel_drew ?_ | refine bel_alloc ?_ _)))) hgr3 (show Below w5.heap.size w5 _ from (by (repeat (first | exact Below.refl _ _ | assumption | refine bel_drew ?_ | refine bel_alloc ?_ _)))).size (fun kk hkk => (World.ownsRow.lt hown2 kk hkk).1)))
                             all_goals (
                               have e : 0 + 0 + 1 + 0 = 0 + 1 := by omega
                               rw [e] at hown3
                               clear e
                               obtain ⟨g3, nc3, rfl, hg3, hg3lt⟩ := World.ownsRow.form hown3 (by omega)
                               simp only [List.getElem_toArray, List.getElem_cons_succ, List.getElem_cons_zero, List.setIfInBounds_toArray, List.set_cons_zero, List.set_cons_succ]
                               go_wp2_with fail
                               all_goals (
                                 go_meet
                                 case rel =>
                                   refine ⟨rfl, g3, nc3, rfl, hg3, hb8, ?_⟩
                                   show World.ownsRow _ _ _ _ _ _ _
                                   rw [HNSE.out]
                                   simpa using hown3))
                         case rest =>
                           obtain ⟨rfl, g3, nc3, rfl, hg3, hB6, HN6⟩ := hcut
                           obtain ⟨w6, rfl⟩ : ∃ x, x = wc := ⟨_, rfl⟩
                           have y4b := cell_keep hB6 y4
                           have x0b := cell_keep hB6 x0
                           have x1b := cell_keep hB6 x1
                           have x2b := cell_keep hB6 x2
                           have x3b := cell_keep hB6 x3
                           have x4b := cell_keep hB6 x4
                           have hxo : w5.ownsRow (w.heap.size + 2) 26 5 (.slice a n cp) n (xiCells xs) := by have := HI5.out.1; rw [HLen.out.2] at this; exact this
                           have HXO := Lib.hid hxo
                           have hncp : n ≤ cp := by
                             rcases hxo.2 with ⟨e, -⟩ | ⟨q, cap, cur, e, -, -, hq, -⟩
                             · simp only [Value.slice.injEq] at e; omega
                             · simp only [Value.slice.injEq] at e; omega
                           have hjn5 : (K : Int) ≤ (cp : Int) := by omega
                           have hjn6 : (n : Int) ≤ (cp : Int) := by omega
                           clear hxo x0 x1 x2 x3 x4 y3 y4 yf
                           go_upto_region 26 with fail
                           go_cut [8, 12] from 25 to 159 (fun s8 s12 wx => s8 = .int .i64 K ∧ ∃ g4 cp4, s12 = .slice (some ⟨g4, 0, none⟩) (n + 1) cp4 ∧ w6.heap.size ≤ g4 ∧ Below w6.heap.size w6 wx ∧ Hid (wx.ownsRow w6.heap.size 26 5 (.slice (some ⟨g4, 0, none⟩) (n + 1) cp4) (n + 1) (xiCells (xs.take K ++ (⟨xk, xn, xt, xa, xl, xc, xb, xm, xe⟩, V) :: xs.drop K))))
                           case first =>
                             cases a with
                             | some ga =>
                               obtain ⟨g, rfl⟩ : ∃ g, ga = ⟨g, 0, none⟩ := by
                                 rcases HXO.out.2 with ⟨e, -⟩ | ⟨q, cap, cur, e, -⟩
                                 · simp at e
                                 · simp only [Value.slice.injEq, Option.some.injEq] at e
                                   exact ⟨q, e.1⟩
                               have HL1 := Lib.hid (show (xiCells (xs.take K)).length = K * 5 by rw [xiCells_len, List.length_take, HLen.out.2, Nat.min_eq_left hKn])
                               have HL3 := Lib.hid (show (xiCells (xs.drop K)).length = (n - K) * 5 by rw [xiCells_len, List.length_drop, HLen.out.2])
                               have HO1 := Lib.hid (show ∀ l : List XI, ∀ u ∈ xiCells l, u.oneCell' = true from fun l u hu => by
                                 obtain ⟨x, -, hx⟩ := List.mem_flatMap.1 hu
                                 exact VC.cells_one x.1 u hx)
                               have hxa : xiCells xs = xiCells (xs.take K) ++ xiCells (xs.drop K) := by rw [← xiCells_app, List.take_append_drop]
                               have HN1 := Lib.hid (show ∀ W : World, Below w6.heap.size w6 W → ∀ (i : Nat) (u : Value), (xiCells (xs.take K))[i]? = some u → ∃ ad, some (⟨g, 0, none⟩ : Addr) = some ad ∧ W.cell? (ad.add i) = some u from fun W hW i u hu => by
                                 have hi := (List.getElem?_eq_some_iff.1 hu).1
                                 have := World.ownsRow.cells HXO.out (g := g) rfl i u (by rw [hxa, List.getElem?_append_left hi]; exact hu)
                                 rw [add_zero_at] at this
                                 exact ⟨_, rfl, by rw [add_zero_at]; exact cell_keep hW (cell_keep hB6 this)⟩)
                               have HN3 := Lib.hid (show ∀ W : World, Below w6.heap.size w6 W → ∀ (i : Nat) (u : Value), (xiCells (xs.drop K))[i]? = some u → ∃ ad, (if cp = K then some (⟨g, 0, none⟩ : Addr) else some ⟨g, K * 5, none⟩) = some ad ∧ W.cell? (ad.add i) = some u from fun W hW i u hu => by
                                 have := World.ownsRow.cells HXO.out (g := g) rfl (K * 5 + i) u (by rw [hxa, List.getElem?_append_right (by rw [HL1.out]; omega), HL1.out, Nat.add_sub_cancel_left]; exact hu)
                                 rw [add_zero_at] at this
                                 by_cases hcj : cp = K
                                 · have h0 : (xiCells (xs.drop K)).length = 0 := by rw [HL3.out]; omega
                                   rw [List.length_eq_zero_iff.1 h0] at hu
                                   simp at hu
                                 · rw [if_neg hcj]
                                   exact ⟨_, rfl, by rw [Addr.add_lit]; exact cell_keep hW (cell_keep hB6 this)⟩)
                               clear hxa
                               go_region_held_law (fun w' => Below w6.heap.size w6 w' ∧ w'.cell? ⟨w.heap.size + 1, 4, none⟩ = some (.slice (some ⟨g, 0, none⟩) n cp) ∧ w'.cell? ⟨w4.heap.size, 0, none⟩ = some (.int .u8 xk) ∧ w'.cell? ⟨w4.heap.size, 1, none⟩ = some (.int .i64 xn) ∧ w'.cell? ⟨w4.heap.size, 2, none⟩ = some (.string xt) ∧ w'.cell? ⟨w4.heap.size, 3, none⟩ = some (.slice xa xl xc) ∧ w'.cell? ⟨w4.heap.size, 4, none⟩ = some (.slice xb xm xe))
                                 ((refine (fun h => ⟨h, cell_keep h y4b, cell_keep h x0b, cell_keep h x1b, cell_keep h x2b, cell_keep h x3b, cell_keep h x4b⟩ : Below w6.heap.size w6 _ → _) ?_; (repeat (first | exact Below.refl _ _ | assumption | refine bel_drew ?_ | refine bel_alloc ?_ _ | refine bel_set ?_ (Nat.le_refl _) _ | refine below_more ?_ (by assumption)))))
                                 (first
                                   | (refine step_append_any _ rfl _ _ 24 rfl w6.heap.size 26 i0 zeroV 5 80 Tryz.underlying24 HJ.out HJ0.out HJ1.out HJ2.out rfl (by decide) (.slice none 0 0) 0 [] rfl (World.ownsRow_nil _ _ _ _) _ _ _ (xiCells (xs.take K)) (show _ = Value.slice (some ⟨g, 0, none⟩) K cp from rfl) HL1.out (HN1.out _ (by (repeat (first | exact Below.refl _ _ | assumption | refine bel_drew ?_ | refine bel_alloc ?_ _)))) (HO1.out _) (by unfold maxLen; omega) (by omega) (show Below w6.heap.size w6 _ from (by (repeat (first | exact Below.refl _ _ | assumption | refine bel_drew ?_ | refine bel_alloc ?_ _)))).size ?_; intro v1 w7 hown1 hgr1 hat1; have hnw1 := fun p v (h : World.cell? _ p = some v) => hgr1.cell h (by simp [Value.ownBlock]); have hb6 := Below.grown (show Below w6.heap.size w6 _ from (by (repeat (first | exact Below.refl _ _ | assumption | refine bel_drew ?_ | refine bel_alloc ?_ _)))) hgr1 (show Below w6.heap.size w6 _ from (by (repeat (first | exact Below.refl _ _ | assumption | refine bel_drew ?_ | refine bel_alloc ?_ _)))).size (fun kk hkk => by simp [Value.ownBlock] at hkk))
                                   | (refine step_append_any _ rfl _ _ 24 rfl w6.heap.size 26 i0 zeroV 5 80 Tryz.underlying24 HJ.out HJ0.out HJ1.out HJ2.out rfl (by decide) v1 (0 + K) ([] ++ (xiCells (xs.take K))) rfl (by first | exact hown1 | exact World.ownsRow.alloc hown1 _) _ _ _ [.int .u8 xk, .int .i64 xn, .string xt, .slice xa xl xc, .slice xb xm xe] (show _ = Value.slice (some ⟨_, 0, none⟩) 1 1 from rfl) rfl (by intro i u hu; refine ⟨_, rfl, ?_⟩; rw [add_zero_at]; first | (rw [cell_al_eq _ _ _ _ _ rfl]; simpa using hu) | (refine hnw1 _ _ ?_; show (World.alloc _ _).cell? _ = _; rw [cell_al_eq _ _ _ _ _ rfl]; simpa using hu)) (by intro u hu; simp only [List.mem_cons, List.not_mem_nil, or_false] at hu; rcases hu with rfl | rfl | rfl | rfl | rfl <;> rfl) (by unfold maxLen; omega) (by omega) (show Below w6.heap.size w6 _ from (by (repeat (first | exact Below.refl _ _ | assumption | refine bel_drew ?_ | refine bel_alloc ?_ _)))).size ?_; intro v2 w8 hown2 hgr2 hat2; have hb7 := Below.grown (show Below w6.heap.size w6 _ from (by (repeat (first | exact Below.refl _ _ | assumption | refine bel_drew ?_ | refine bel_alloc ?_ _)))) hgr2 (show Below w6.heap.size w6 _ from (by (repeat (first | exact Below.refl _ _ | assumption | refine bel_drew ?_ | refine bel_alloc ?_ _)))).size (fun kk hkk => (World.ownsRow.lt hown1 kk hkk).1))
                                   | (refine step_append_any _ rfl _ _ 24 rfl w6.heap.size 26 i0 zeroV 5 80 Tryz.underlying24 HJ.out HJ0.out HJ1.out HJ2.out rfl (by decide) v2 (0 + K + 1) ([] ++ (xiCells (xs.take K)) ++ [.int .u8 xk, .int .i64 xn, .string xt, .slice xa xl xc, .slice xb xm xe]) rfl hown2 _ _ _ (xiCells (xs.drop K)) rfl HL3.out (HN3.out _ (by (repeat (first | exact Below.refl _ _ | assumption | refine bel_drew ?_ | refine bel_alloc ?_ _)))) (HO1.out _) (by unfold maxLen; omega) (by omega) (show Below w6.heap.size w6 _ from (by (repeat (first | exact Below.refl _ _ | assumption | refine bel_drew ?_ | refine bel_alloc ?_ _)))).size ?_; intro v3 w9 hown3 hgr3 hat3; have hb8 := Below.grown (show Below w6.heap.size w6 _ from (by (repeat (first | exact Below.refl _ _ | assumption | refine bel_drew ?_ | refine bel_alloc ?_ _)))) hgr3 (show Below w6.heap.size w6 _ from (by (repeat (first | exact Below.refl _ _ | assumption | refine bel_drew ?_ | refine bel_alloc ?_ _)))).size (fun kk hkk => (World.ownsRow.lt hown2 kk hkk).1)))
                               all_goals (
                                 have e : 0 + K + 1 + (n - K) = n + 1 := by omega
                                 rw [e] at hown3
                                 clear e
                                 obtain ⟨g4, cp4, rfl, hg4, hg4lt⟩ := World.ownsRow.form hown3 (by omega)
                                 simp only [List.getElem_toArray, List.getElem_cons_succ, List.getElem_cons_zero, List.setIfInBounds_toArray, List.set_cons_zero, List.set_cons_succ]
                                 go_wp2_with fail
                                 all_goals (
                                  go_meet
                                  case rel =>
                                   refine ⟨rfl, g4, cp4, rfl, hg4, hb8, ?_⟩
                                   show World.ownsRow _ _ _ _ _ _ _
                                   rw [xiCells_app, xiCells_cons]
                                   simpa [VC.cells] using hown3))
                             | none =>
                               obtain ⟨rfl, rfl⟩ : n = 0 ∧ cp = 0 := by
                                 rcases HXO.out.2 with ⟨e, h0⟩ | ⟨q, cap, cur, e, -⟩
                                 · simp only [Value.slice.injEq] at e; exact ⟨h0, e.2.2⟩
                                 · simp at e
                               obtain rfl : K = 0 := by omega
                               have hns : xs = [] := List.length_eq_zero_iff.1 HLen.out.2
                               have HXSE := Lib.hid hns
                               clear hns
                               go_region_held_law (fun w' => Below w6.heap.size w6 w' ∧ w'.cell? ⟨w.heap.size + 1, 4, none⟩ = some (.slice none 0 0) ∧ w'.cell? ⟨w4.heap.size, 0, none⟩ = some (.int .u8 xk) ∧ w'.cell? ⟨w4.heap.size, 1, none⟩ = some (.int .i64 xn) ∧ w'.cell? ⟨w4.heap.size, 2, none⟩ = some (.string xt) ∧ w'.cell? ⟨w4.heap.size, 3, none⟩ = some (.slice xa xl xc) ∧ w'.cell? ⟨w4.heap.size, 4, none⟩ = some (.slice xb xm xe))
                                 ((refine (fun h => ⟨h, cell_keep h y4b, cell_keep h x0b, cell_keep h x1b, cell_keep h x2b, cell_keep h x3b, cell_keep h x4b⟩ : Below w6.heap.size w6 _ → _) ?_; (repeat (first | exact Below.refl _ _ | assumption | refine bel_drew ?_ | refine bel_alloc ?_ _ | refine bel_set ?_ (Nat.le_refl _) _ | refine below_more ?_ (by assumption)))))
                                 (first
                                   | (refine step_append_any _ rfl _ _ 24 rfl w6.heap.size 26 i0 zeroV 5 80 Tryz.underlying24 HJ.out HJ0.out HJ1.out HJ2.out rfl (by decide) (.slice none 0 0) 0 [] rfl (World.ownsRow_nil _ _ _ _) _ _ _ [] (show _ = Value.slice none 0 0 from rfl) rfl (fun i u h => by simp at h) (fun u h => by simp at h) (by unfold maxLen; omega) (by omega) (show Below w6.heap.size w6 _ from (by (repeat (first | exact Below.refl _ _ | assumption | refine bel_drew ?_ | refine bel_alloc ?_ _)))).size ?_; intro v1 w7 hown1 hgr1 hat1; have hnw1 := fun p v (h : World.cell? _ p = some v) => hgr1.cell h (by simp [Value.ownBlock]); have hb6 := Below.grown (show Below w6.heap.size w6 _ from (by (repeat (first | exact Below.refl _ _ | assumption | refine bel_drew ?_ | refine bel_alloc ?_ _)))) hgr1 (show Below w6.heap.size w6 _ from (by (repeat (first | exact Below.refl _ _ | assumption | refine bel_drew ?_ | refine bel_alloc ?_ _)))).size (fun kk hkk => by simp [Value.ownBlock] at hkk))
                                   | (refine step_append_any _ rfl _ _ 24 rfl w6.heap.size 26 i0 zeroV 5 80 Tryz.underlying24 HJ.out HJ0.out HJ1.out HJ2.out rfl (by decide) v1 (0 + 0) ([] ++ []) rfl (by first | exact hown1 | exact World.ownsRow.alloc hown1 _) _ _ _ [.int .u8 xk, .int .i64 xn, .string xt, .slice xa xl xc, .slice xb xm xe] (show _ = Value.slice (some ⟨_, 0, none⟩) 1 1 from rfl) rfl (by intro i u hu; refine ⟨_, rfl, ?_⟩; rw [add_zero_at]; first | (rw [cell_al_eq _ _ _ _ _ rfl]; simpa using hu) | (refine hnw1 _ _ ?_; show (World.alloc _ _).cell? _ = _; rw [cell_al_eq _ _ _ _ _ rfl]; simpa using hu)) (by intro u hu; simp only [List.mem_cons, List.not_mem_nil, or_false] at hu; rcases hu with rfl | rfl | rfl | rfl | rfl <;> rfl) (by unfold maxLen; omega) (by omega) (show Below w6.heap.size w6 _ from (by (repeat (first | exact Below.refl _ _ | assumption | refine bel_drew ?_ | refine bel_alloc ?_ _)))).size ?_; intro v2 w8 hown2 hgr2 hat2; have hb7 := Below.grown (show Below w6.heap.size w6 _ from (by (repeat (first | exact Below.refl _ _ | assumption | refine bel_drew ?_ | refine bel_alloc ?_ _)))) hgr2 (show Below w6.heap.size w6 _ from (by (repeat (first | exact Below.refl _ _ | assumption | refine bel_drew ?_ | refine bel_alloc ?_ _)))).size (fun kk hkk => (World.ownsRow.lt hown1 kk hkk).1))
                                   | (refine step_append_any _ rfl _ _ 24 rfl w6.heap.size 26 i0 zeroV 5 80 Tryz.underlying24 HJ.out HJ0.out HJ1.out HJ2.out rfl (by decide) v2 (0 + 0 + 1) ([] ++ [] ++ [.int .u8 xk, .int .i64 xn, .string xt, .slice xa xl xc, .slice xb xm xe]) rfl hown2 _ _ _ [] rfl rfl (fun i u h => by simp at h) (fun u h => by simp at h) (by unfold maxLen; omega) (by omega) (show Below w6.heap.size w6 _ from (by (repeat (first | exact Below.refl _ _ | assumption | refine bel_drew ?_ | refine bel_alloc ?_ _)))).size ?_; intro v3 w9 hown3 hgr3 hat3; have hb8 := Below.grown (show Below w6.heap.size w6 _ from (by (repeat (first | exact Below.refl _ _ | assumption | refine bel_drew ?_ | refine bel_alloc ?_ _)))) hgr3 (show Below w6.heap.size w6 _ from (by (repeat (first | exact Below.refl _ _ | assumption | refine bel_drew ?_ | refine bel_alloc ?_ _)))).size (fun kk hkk => (World.ownsRow.lt hown2 kk hkk).1)))
                               all_goals (
                                 have e : 0 + 0 + 1 + 0 = 0 + 1 := by omega
                                 rw [e] at hown3
                                 clear e
                                 obtain ⟨g4, cp4, rfl, hg4, hg4lt⟩ := World.ownsRow.form hown3 (by omega)
                                 simp only [List.getElem_toArray, List.getElem_cons_succ, List.getElem_cons_zero, List.setIfInBounds_toArray, List.set_cons_zero, List.set_cons_succ]
                                 go_wp2_with fail
                                 all_goals (
                                  go_meet
                                  case rel =>
                                   refine ⟨rfl, g4, cp4, rfl, hg4, hb8, ?_⟩
                                   show World.ownsRow _ _ _ _ _ _ _
                                   rw [HXSE.out]
                                   simpa [xiCells, VC.cells] using hown3))
                           case rest =>
                             obtain ⟨rfl, g4, cp4, rfl, hg4, hB7, HXN⟩ := hcut
                             obtain ⟨w7, rfl⟩ : ∃ x, x = wc := ⟨_, rfl⟩
                             have hB57 := below_more hB6 hB7
                             have hs9 := hB57.size
                             have HZ7 : Hid (BlkAt w7 w.heap.size 26 zeroCs) := BlkAt.keep HZ5.out hB57
                             have HY7 : Hid (BlkAt w7 (w.heap.size + 1) 26 #[.int .u8 5, .int .i64 0, .string ⟨#[]⟩, .slice na n nc, .slice a n cp]) := BlkAt.keep HY5.out hB57
                             have HST7 : Hid (WSt w7 r s m4 r4 c1) := HST5.out.keep hB57
                             have HG7 : Hid (w.grownBy w7 (some r)) := HG5.out.trans (grown_of hB57 (some r))
                             have hs65 := hB6.size
                             have HN7 : Hid (w7.ownsRow (w.heap.size + 2) 9 1 (.slice (some ⟨g3, 0, none⟩) (n + 1) nc3) (n + 1) ((ns.take K ++ nm :: ns.drop K).map Value.string)) := ownsRow_low (by omega) (HN6.out.kept (grown_of hB7 none) (.inr (by simp [Value.ownBlock])))
                             have HI7 : Hid (ItemsOwn w7 (w.heap.size + 2) (.slice (some ⟨g4, 0, none⟩) (n + 1) cp4) (xs.take K ++ (⟨xk, xn, xt, xa, xl, xc, xb, xm, xe⟩, V) :: xs.drop K)) :=
                               ItemsOwn.ins HI3.out HNew.out (by omega) hs7 ⟨g4, rfl, by omega⟩ (by rw [HLen.out.2]; exact ownsRow_low (by omega) HXN.out) (fun b hb hB => (hB57.block b (by omega)).trans (HWB.out b hb hB)) (fun b hb hB => HGq.out.block b hb (fun e => by cases e; omega))
                             have HZN : Hid ((ns.take K ++ nm :: ns.drop K).zip ((xs.take K ++ (⟨xk, xn, xt, xa, xl, xc, xb, xm, xe⟩, V) :: xs.drop K).map Prod.snd) = sortM (acc ++ [(nm, V)])) := by
                               show _ = _
                               have h1 := insM_at (nm, V) (ns.zip (xs.map Prod.snd))
                               rw [show insK (nm, V).1 (ns.zip (xs.map Prod.snd)) = K from HKE.out] at h1
                               rw [sortM_snoc, ← HZip.out, h1, List.map_append, List.map_cons, List.map_take, List.map_drop]
                               exact zip_ins nm V (by rw [List.length_map, HLen.out.1, HLen.out.2])
                             have HSN : Hid (∀ s ∈ (ns.take K ++ nm :: ns.drop K), s.size ≤ 4096) := by
                               show ∀ s ∈ (ns.take K ++ nm :: ns.drop K), s.size ≤ 4096
                               intro s' hs'
                               rw [List.mem_append, List.mem_cons] at hs'
                               rcases hs' with h1 | rfl | h1
                               · exact HSz.out s' (List.mem_of_mem_take h1)
                               · exact HNM.out
                               · exact HSz.out s' (List.mem_of_mem_drop h1)
                             have HLN : Hid ((ns.take K ++ nm :: ns.drop K).length = n + 1 ∧ (xs.take K ++ (⟨xk, xn, xt, xa, xl, xc, xb, xm, xe⟩, V) :: xs.drop K).length = n + 1) := by
                               show _ ∧ _
                               rw [List.length_append, List.length_cons, List.length_take, List.length_drop, List.length_append, List.length_cons, List.length_take, List.length_drop, HLen.out.1, HLen.out.2]
                               omega
                             obtain ⟨q0, q1, q2, q3, q4, qf⟩ := blk5 HY7.out
                             obtain ⟨z0, z1, z2, z3, z4, zf⟩ := blk5 HZ7.out
                             have hkc := HST7.out.kcell
                             have hne1 : w.heap.size + 1 ≠ r := by omega
                             have hrl : r < w7.heap.size := by omega
                             have hwc : ∀ k, k ≠ w.heap.size + 1 → ((w7.setCell ⟨w.heap.size + 1, 3, none⟩ (.slice (some ⟨g3, 0, none⟩) (n + 1) nc3)).setCell ⟨w.heap.size + 1, 4, none⟩ (.slice (some ⟨g4, 0, none⟩) (n + 1) cp4)).heap[k]? = w7.heap[k]? := fun k hk => (Below.heap_setCell _ _ _ _ hk).trans (Below.heap_setCell _ _ _ _ hk)
                             have HZ8 : Hid (BlkAt ((w7.setCell ⟨w.heap.size + 1, 3, none⟩ (.slice (some ⟨g3, 0, none⟩) (n + 1) nc3)).setCell ⟨w.heap.size + 1, 4, none⟩ (.slice (some ⟨g4, 0, none⟩) (n + 1) cp4)) w.heap.size 26 zeroCs) := (hwc _ (by omega)).trans HZ7.out
                             have HY8 : Hid (BlkAt ((w7.setCell ⟨w.heap.size + 1, 3, none⟩ (.slice (some ⟨g3, 0, none⟩) (n + 1) nc3)).setCell ⟨w.heap.size + 1, 4, none⟩ (.slice (some ⟨g4, 0, none⟩) (n + 1) cp4)) (w.heap.size + 1) 26 #[.int .u8 5, .int .i64 0, .string ⟨#[]⟩, (.slice (some ⟨g3, 0, none⟩) (n + 1) nc3), (.slice (some ⟨g4, 0, none⟩) (n + 1) cp4)]) := (BlkAt.set HY7.out 3 (.slice (some ⟨g3, 0, none⟩) (n + 1) nc3)).set 4 (.slice (some ⟨g4, 0, none⟩) (n + 1) cp4)
                             have HST8 : Hid (WSt ((w7.setCell ⟨w.heap.size + 1, 3, none⟩ (.slice (some ⟨g3, 0, none⟩) (n + 1) nc3)).setCell ⟨w.heap.size + 1, 4, none⟩ (.slice (some ⟨g4, 0, none⟩) (n + 1) cp4)) r s m4 r4 c1) := HST7.out.same (hwc _ (by omega))
                             have HG8 : Hid (w.grownBy ((w7.setCell ⟨w.heap.size + 1, 3, none⟩ (.slice (some ⟨g3, 0, none⟩) (n + 1) nc3)).setCell ⟨w.heap.size + 1, 4, none⟩ (.slice (some ⟨g4, 0, none⟩) (n + 1) cp4)) (some r)) := grown_set_new (grown_set_new HG7.out (by omega) _ _) (by omega) _ _
                             have HI8 : Hid (ItemsOwn ((w7.setCell ⟨w.heap.size + 1, 3, none⟩ (.slice (some ⟨g3, 0, none⟩) (n + 1) nc3)).setCell ⟨w.heap.size + 1, 4, none⟩ (.slice (some ⟨g4, 0, none⟩) (n + 1) cp4)) (w.heap.size + 2) (.slice (some ⟨g4, 0, none⟩) (n + 1) cp4) (xs.take K ++ (⟨xk, xn, xt, xa, xl, xc, xb, xm, xe⟩, V) :: xs.drop K)) := (HI7.out.set (by omega) _ _).set (by omega) _ _
                             have HN8 : Hid (World.ownsRow ((w7.setCell ⟨w.heap.size + 1, 3, none⟩ (.slice (some ⟨g3, 0, none⟩) (n + 1) nc3)).setCell ⟨w.heap.size + 1, 4, none⟩ (.slice (some ⟨g4, 0, none⟩) (n + 1) cp4)) (w.heap.size + 2) 9 1 (.slice (some ⟨g3, 0, none⟩) (n + 1) nc3) (n + 1) ((ns.take K ++ nm :: ns.drop K).map Value.string)) := HN7.out.kept (grown_set (grown_set (World.grownBy.refl w7 (some (w.heap.size + 1))) 3 (.slice (some ⟨g3, 0, none⟩) (n + 1) nc3)) 4 (.slice (some ⟨g4, 0, none⟩) (n + 1) cp4)) (.inr (by simp [Value.ownBlock]; omega))
                             have hs10 : w5.heap.size ≤ ((w7.setCell ⟨w.heap.size + 1, 3, none⟩ (.slice (some ⟨g3, 0, none⟩) (n + 1) nc3)).setCell ⟨w.heap.size + 1, 4, none⟩ (.slice (some ⟨g4, 0, none⟩) (n + 1) cp4)).heap.size := Nat.le_trans hs9 (grown_set (grown_set (World.grownBy.refl w7 (some (w.heap.size + 1))) 3 (.slice (some ⟨g3, 0, none⟩) (n + 1) nc3)) 4 (.slice (some ⟨g4, 0, none⟩) (n + 1) cp4)).size
                             clear hB57 hB6 hB7 hwc HZ5 HY5 HST5 HG5 HN6 HXN HNew HWB HGq HI3 HXO HZip HSz HNs5 HX5 HI5 HI4 HG45 HLen HKE y4b x0b x1b x2b x3b x4b
                             by_cases h2 : m4.k = 2
                             · have hb2 : (m4.k == 2) = true := by rw [h2]; rfl
                               have hfin := HFIN.out
                               rw [if_pos h2] at hfin
                               subst hfin
                               have h11' : m4.k ≠ 11 := by omega
                               clear h2 HFIN
                               go_wp2_with fail
                               have hnew : NewV w.heap.size (((((((w7.setCell ⟨w.heap.size + 1, 3, none⟩ (.slice (some ⟨g3, 0, none⟩) (n + 1) nc3)).setCell ⟨w.heap.size + 1, 4, none⟩ (.slice (some ⟨g4, 0, none⟩) (n + 1) cp4)).setCell ⟨w.heap.size, 0, none⟩ (.int .u8 5)).setCell ⟨w.heap.size, 1, none⟩ (.int .i64 0)).setCell ⟨w.heap.size, 2, none⟩ (.string ⟨#[]⟩)).setCell ⟨w.heap.size, 3, none⟩ (.slice (some ⟨g3, 0, none⟩) (n + 1) nc3)).setCell ⟨w.heap.size, 4, none⟩ (.slice (some ⟨g4, 0, none⟩) (n + 1) cp4)) (objV (acc ++ [(nm, V)])) (.agg #[.int .u8 5, .int .i64 0, .string ⟨#[]⟩, (.slice (some ⟨g3, 0, none⟩) (n + 1) nc3), (.slice (some ⟨g4, 0, none⟩) (n + 1) cp4)]) := by
                                 have hns := strs_own (B1 := w.heap.size + 2) (B := w.heap.size) (l := (ns.take K ++ nm :: ns.drop K)) (by rw [HLN.out.1]; exact HN8.out.kept (grown_set (grown_set (grown_set (grown_set (grown_set (World.grownBy.refl _ (some w.heap.size)) 0 (.int .u8 5)) 1 (.int .i64 0)) 2 (.string ⟨#[]⟩)) 3 (.slice (some ⟨g3, 0, none⟩) (n + 1) nc3)) 4 (.slice (some ⟨g4, 0, none⟩) (n + 1) cp4)) (.inr (by simp [Value.ownBlock]; omega))) (by omega) (fun s hs => by have := HSN.out s hs; unfold maxLen; omega) (by rw [HLN.out.1]; omega)
                                 have hout := HI8.out.out (by rw [HLN.out.2]; omega)
                                 unfold objV
                                 rw [← HZN.out, List.map_fst_zip (by rw [List.length_map, HLN.out.1, HLN.out.2]; exact Nat.le_refl _), List.map_snd_zip (by rw [List.length_map, HLN.out.1, HLN.out.2]; exact Nat.le_refl _)]
                                 exact valAt_mk (by decide) (by decide) (by decide) (by decide) (by decide) hns (hout.carry fun k hk hP => ⟨offB_none.2 (by have := offB_none.1 hP; omega), heap_set5 _ _ _ _ _ _ _ _ (by have := offB_none.1 hP; omega)⟩)
                               exact bodyPost_ret (v := .tuple #[.agg #[.int .u8 5, .int .i64 0, .string ⟨#[]⟩, (.slice (some ⟨g3, 0, none⟩) (n + 1) nc3), (.slice (some ⟨g4, 0, none⟩) (n + 1) cp4)], .bool true]) (by simp [results, Tryz.results72, go_sem, z0, z1, z2, z3, z4]) rfl ⟨grown_set5 HG8.out (Nat.le_refl _) _ _ _ _ _, ⟨5, 0, ⟨#[]⟩, some ⟨g3, 0, none⟩, n + 1, nc3, some ⟨g4, 0, none⟩, n + 1, cp4⟩, m4, rfl, hnew, HST8.out.same (heap_set5 _ _ _ _ _ _ _ _ (by omega)), h11'⟩
                             · have hb2 : (m4.k == 2) = false := beq_eq_false_iff_ne.2 h2
                               by_cases h5 : m4.k = 5
                               · have hb5 : (m4.k != 5) = false := by rw [h5]; rfl
                                 have hfin := HFIN.out
                                 rw [if_neg h2, if_pos h5] at hfin
                                 have h11' : m4.k ≠ 11 := by omega
                                 have hst6 := HST8.out
                                 match r4 with
                                 | [] => exact absurd hst6.nonil h11'
                                 | .err p e :: tl =>
                                   dsimp only [nextL] at hfin
                                   subst hfin
                                   have HNX := Lib.hid (wnext_err hs hst6 h11' (Lib.hid rfl))
                                   clear h2 h5 HFIN hst6
                                   go_wp2_with fail
                                   generalize ((w7.setCell ⟨w.heap.size + 1, 3, none⟩ (.slice (some ⟨g3, 0, none⟩) (n + 1) nc3)).setCell ⟨w.heap.size + 1, 4, none⟩ (.slice (some ⟨g4, 0, none⟩) (n + 1) cp4)) = w9 at HNX HZ8 HG8 hs10 ⊢
                                   refine HNX.out.mono ?_
                                   rintro e' wq ⟨rfl, hgq, hbad⟩
                                   have hsq := hgq.size
                                   obtain ⟨z0, z1, z2, z3, z4, zf⟩ := blk5 (HZ8.out.grown hgq (by intro e; cases e; omega))
                                   have hgr := HG8.out.trans hgq
                                   go_wp2_with fail
                                   exact bodyPost_ret (v := .tuple #[zeroV, .bool false]) (by simp [results, Tryz.results72, go_sem, zeroV, z0, z1, z2, z3, z4]) rfl ⟨grown_set5 hgr (Nat.le_refl _) _ _ _ _ _, rfl, hbad.same (heap_set5 _ _ _ _ _ _ _ _ (by omega))⟩
                                 | .tok m5 :: r5 =>
                                   dsimp only [nextL] at hfin
                                   have HFN := Lib.hid hfin
                                   have HNX := Lib.hid (wnext_tok hs hst6 h11' (Lib.hid rfl))
                                   have hml := HML.out
                                   simp only [List.length_cons] at hml hf
                                   clear h2 h5 HFIN hst6 hfin
                                   go_wp2_with fail
                                   generalize ((w7.setCell ⟨w.heap.size + 1, 3, none⟩ (.slice (some ⟨g3, 0, none⟩) (n + 1) nc3)).setCell ⟨w.heap.size + 1, 4, none⟩ (.slice (some ⟨g4, 0, none⟩) (n + 1) cp4)) = w9 at HNX HZ8 HY8 HI8 HN8 HG8 hs10 ⊢
                                   refine HNX.out.mono ?_
                                   rintro e' w10 ⟨rfl, hg10, hst10⟩
                                   have hs11 := hg10.size
                                   have HZ10 : Hid (BlkAt w10 w.heap.size 26 zeroCs) := HZ8.out.grown hg10 (by intro e; cases e; omega)
                                   have HY10 : Hid (BlkAt w10 (w.heap.size + 1) 26 #[.int .u8 5, .int .i64 0, .string ⟨#[]⟩, (.slice (some ⟨g3, 0, none⟩) (n + 1) nc3), (.slice (some ⟨g4, 0, none⟩) (n + 1) cp4)]) := HY8.out.grown hg10 (by intro e; cases e; omega)
                                   have HG10 : Hid (w.grownBy w10 (some r)) := HG8.out.trans hg10
                                   have HI10 : Hid (ItemsOwn w10 (w.heap.size + 2) (.slice (some ⟨g4, 0, none⟩) (n + 1) cp4) (xs.take K ++ (⟨xk, xn, xt, xa, xl, xc, xb, xm, xe⟩, V) :: xs.drop K)) := HI8.out.kept (by omega) hg10
                                   have HN10 : Hid (World.ownsRow w10 (w.heap.size + 2) 9 1 (.slice (some ⟨g3, 0, none⟩) (n + 1) nc3) (n + 1) ((ns.take K ++ nm :: ns.drop K).map Value.string)) := HN8.out.kept hg10 (.inr (by simp [Value.ownBlock]; omega))
                                   have HST := Lib.hid hst10
                                   clear hst10
                                   go_wp2_with fail
                                   go_roundg r5.length
                                   case rel => exact ⟨m5, r5, c1, acc ++ [(nm, V)], (ns.take K ++ nm :: ns.drop K), (xs.take K ++ (⟨xk, xn, xt, xa, xl, xc, xb, xm, xe⟩, V) :: xs.drop K), _, _, _, _, f', n + 1, rfl, by omega, by omega, hcnt2, by omega, HLN, HST, HZ10, HY10, HN10, HI10, HG10, HZN, HSN, HFN⟩
                                   case measure => simp only [List.length_cons]; omega
                               · have hb5 : (m4.k != 5) = true := by rw [bne_iff_ne]; exact h5
                                 have hfin := HFIN.out
                                 rw [if_neg h2, if_neg h5] at hfin
                                 obtain ⟨v, hv⟩ : ∃ v, wrongE m4 3 = v := ⟨_, rfl⟩
                                 rw [hv] at hfin
                                 subst hfin
                                 have HBD := Lib.hid (wbad_any HST8.out 3 v hv)
                                 clear h2 h5 HFIN hv
                                 go_wp2_with fail
                                 generalize ((w7.setCell ⟨w.heap.size + 1, 3, none⟩ (.slice (some ⟨g3, 0, none⟩) (n + 1) nc3)).setCell ⟨w.heap.size + 1, 4, none⟩ (.slice (some ⟨g4, 0, none⟩) (n + 1) cp4)) = w9 at HBD HZ8 HG8 hs10 ⊢
                                 refine HBD.out.mono ?_
                                 rintro e' wq ⟨rfl, hgq, hbad⟩
                                 have hsq := hgq.size
                                 obtain ⟨z0, z1, z2, z3, z4, zf⟩ := blk5 (HZ8.out.grown hgq (by intro e; cases e; omega))
                                 have hgr := HG8.out.trans hgq
                                 simp only [zeroV]
                                 go_wp2_with fail
                                 exact bodyPost_ret (v := .tuple #[zeroV, .bool false]) (by simp [results, Tryz.results72, go_sem, zeroV, z0, z1, z2, z3, z4]) rfl ⟨grown_set5 hgr (Nat.le_refl _) _ _ _ _ _, rfl, hbad.same (heap_set5 _ _ _ _ _ _ _ _ (by omega))⟩
end

section
set_option maxRecDepth 100000
open Go.RowKit
set_option maxHeartbeats 8000000 in
theorem wvalue_go {w : World} {r d : Nat} {s : ByteArray} {m : Mk} {ms : List Lx} {c : Nat} (deep : Int) (hd0 : 0 ≤ deep) (hd1 : deep < 12) (hs : s.size ≤ 65536) (hV : WVal s r d (deep + 1)) (h : WSt w r s m ms c) (hk : m.k = 1 ∨ m.k = 3) (hc : c < 8192) (R : PR JV) (hR : Hid ((if m.k = 3 then listP (valP d) ms (c + 1) else objP (valP d) ms (c + 1)) = R)) :
   Calls Tryz.prog 35 #[.pointer (some ⟨r, 0, none⟩), .int .i64 deep] w (WPost R s r w) := by
 have hlt := h.lt
 obtain ⟨c1, -, -, c7, cf⟩ := h.cells
 have hc' : ¬ (8192 : Int) < (c : Int) + 1 := by omega
 have hdb : ¬ (12 : Int) ≤ deep := by omega
 have h11 : m.k ≠ 11 := by omega
 have hsz0 : (w.setCell ⟨r, 7, none⟩ (.int .i64 ((c : Int) + 1))).heap.size = w.heap.size := size_set _ _ _
 have HG0 : Hid (w.grownBy ((w.setCell ⟨r, 7, none⟩ (.int .i64 ((c : Int) + 1))).alloc (.cells zeroCs 26)) (some r)) := grown_alloc (grown_set (World.grownBy.refl _ _) _ _) _
 have HSt0 : Hid (WSt ((w.setCell ⟨r, 7, none⟩ (.int .i64 ((c : Int) + 1))).alloc (.cells zeroCs 26)) r s m ms ((c + 1 : Nat) : Int)) := (h.count ((c : Int) + 1)).keep (bel_alloc (Below.refl _ _) _)
 have HRB : Hid (BlkAt ((w.setCell ⟨r, 7, none⟩ (.int .i64 ((c : Int) + 1))).alloc (.cells zeroCs 26)) w.heap.size 26 zeroCs) := by
   have := blkAt_new (w.setCell ⟨r, 7, none⟩ (.int .i64 ((c : Int) + 1))) zeroCs 26
   rwa [hsz0] at this
 have HS0 : Hid ((World.heap ((w.setCell ⟨r, 7, none⟩ (.int .i64 ((c : Int) + 1))).alloc (.cells zeroCs 26))).size = w.heap.size + 1) := by show _ = _; rw [size_al, hsz0]
 clear h hsz0
 rcases hk with e | e
 · rw [e] at c1
   have hr := hR.out
   rw [if_neg (by omega)] at hr
   have HC := Lib.hid (wobj_any deep hd0 (by omega) hs hV HSt0.out h11 (by omega) R hr)
   clear e hR hr
   go_enter Tryz.func35, Tryz.ntmps35
   go_wp2_with fail
   cases R with
   | bad p er =>
     refine HC.out.mono ?_
     rintro e' w1 ⟨hg1, rfl, hbad⟩
     have hs1 := hg1.size
     rw [HS0.out] at hs1
     obtain ⟨z0, z1, z2, z3, z4, zf⟩ := blk5 (HRB.out.grown hg1 (by intro e; have e2 : w.heap.size = r := Option.some.inj e; omega))
     have hg := HG0.out.trans hg1
     simp only [zeroV]
     go_wp2_with fail
     exact bodyPost_ret (v := .tuple #[zeroV, .bool false]) (by simp [results, Tryz.results35, go_sem, zeroV, z0, z1, z2, z3, z4]) rfl ⟨grown_set5 hg (Nat.le_refl _) _ _ _ _ _, rfl, hbad.same (heap_set5 _ _ _ _ _ _ _ _ (by omega))⟩
   | ok V ms1 c1 =>
     refine HC.out.mono ?_
     rintro e' w1 ⟨hg1, ⟨xk, xn, xt, xa, xl, xc, xb, xm, xe⟩, m1, rfl, hnew, hst1, hk1⟩
     have hs1 := hg1.size
     rw [HS0.out] at hs1
     obtain ⟨z0, z1, z2, z3, z4, zf⟩ := blk5 (HRB.out.grown hg1 (by intro e; have e2 : w.heap.size = r := Option.some.inj e; omega))
     have HST := Lib.hid hst1
     have HNew := Lib.hid hnew
     have hg := HG0.out.trans hg1
     clear hst1 hnew hg1
     simp only [VC.val]
     go_wp2_with fail
     exact bodyPost_ret (v := .tuple #[.agg #[.int .u8 xk, .int .i64 xn, .string xt, .slice xa xl xc, .slice xb xm xe], .bool true]) (by simp [results, Tryz.results35, go_sem, z0, z1, z2, z3, z4]) rfl
       ⟨grown_set5 hg (Nat.le_refl _) _ _ _ _ _, ⟨xk, xn, xt, xa, xl, xc, xb, xm, xe⟩, m1, rfl,
         HNew.out.carry (fun k hk hP => by
           have hk2 := offB_none.1 hP
           rw [HS0.out] at hk2
           exact ⟨offB_none.2 (by omega), heap_set5 _ _ _ _ _ _ _ _ (by omega)⟩),
         HST.out.same (heap_set5 _ _ _ _ _ _ _ _ (by omega)), hk1⟩
 · rw [e] at c1
   have hr := hR.out
   rw [if_pos e] at hr
   have HC := Lib.hid (wlist_any deep hd0 (by omega) hs hV HSt0.out h11 (by omega) R hr)
   clear e hR hr
   go_enter Tryz.func35, Tryz.ntmps35
   go_wp2_with fail
   cases R with
   | bad p er =>
     refine HC.out.mono ?_
     rintro e' w1 ⟨hg1, rfl, hbad⟩
     have hs1 := hg1.size
     rw [HS0.out] at hs1
     obtain ⟨z0, z1, z2, z3, z4, zf⟩ := blk5 (HRB.out.grown hg1 (by intro e; have e2 : w.heap.size = r := Option.some.inj e; omega))
     have hg := HG0.out.trans hg1
     simp only [zeroV]
     go_wp2_with fail
     exact bodyPost_ret (v := .tuple #[zeroV, .bool false]) (by simp [results, Tryz.results35, go_sem, zeroV, z0, z1, z2, z3, z4]) rfl ⟨grown_set5 hg (Nat.le_refl _) _ _ _ _ _, rfl, hbad.same (heap_set5 _ _ _ _ _ _ _ _ (by omega))⟩
   | ok V ms1 c1 =>
     refine HC.out.mono ?_
     rintro e' w1 ⟨hg1, ⟨xk, xn, xt, xa, xl, xc, xb, xm, xe⟩, m1, rfl, hnew, hst1, hk1⟩
     have hs1 := hg1.size
     rw [HS0.out] at hs1
     obtain ⟨z0, z1, z2, z3, z4, zf⟩ := blk5 (HRB.out.grown hg1 (by intro e; have e2 : w.heap.size = r := Option.some.inj e; omega))
     have HST := Lib.hid hst1
     have HNew := Lib.hid hnew
     have hg := HG0.out.trans hg1
     clear hst1 hnew hg1
     simp only [VC.val]
     go_wp2_with fail
     exact bodyPost_ret (v := .tuple #[.agg #[.int .u8 xk, .int .i64 xn, .string xt, .slice xa xl xc, .slice xb xm xe], .bool true]) (by simp [results, Tryz.results35, go_sem, z0, z1, z2, z3, z4]) rfl
       ⟨grown_set5 hg (Nat.le_refl _) _ _ _ _ _, ⟨xk, xn, xt, xa, xl, xc, xb, xm, xe⟩, m1, rfl,
         HNew.out.carry (fun k hk hP => by
           have hk2 := offB_none.1 hP
           rw [HS0.out] at hk2
           exact ⟨offB_none.2 (by omega), heap_set5 _ _ _ _ _ _ _ _ (by omega)⟩),
         HST.out.same (heap_set5 _ _ _ _ _ _ _ _ (by omega)), hk1⟩
theorem wval_all {s : ByteArray} {r : Nat} (hs : s.size ≤ 65536) : ∀ d : Nat, d ≤ 12 → WVal s r d (12 - d : Int)
 | 0, _ => fun w m ms c h hc => by
   rw [valP]
   by_cases h1 : begV m = false
   · rw [if_pos h1]; exact wvalue_wrong _ h h1 _ (Lib.hid rfl)
   rw [if_neg h1]
   by_cases h2 : 8192 ≤ c
   · rw [if_pos h2]; exact wvalue_much _ h h1 h2 hc
   rw [if_neg h2]
   by_cases h3 : m.k ≠ 1 ∧ m.k ≠ 3
   · rw [if_pos h3]; exact wvalue_leaf _ h (by have := beg_cases h1; omega) (by omega)
   · rw [if_neg h3]; exact wvalue_deep _ h (by omega) (by omega) (by simp)
 | d + 1, hd => fun w m ms c h hc => by
   rw [valP]
   by_cases h1 : begV m = false
   · rw [if_pos h1]; exact wvalue_wrong _ h h1 _ (Lib.hid rfl)
   rw [if_neg h1]
   by_cases h2 : 8192 ≤ c
   · rw [if_pos h2]; exact wvalue_much _ h h1 h2 hc
   rw [if_neg h2]
   by_cases h3 : m.k ≠ 1 ∧ m.k ≠ 3
   · rw [if_pos h3]; exact wvalue_leaf _ h (by have := beg_cases h1; omega) (by omega)
   · rw [if_neg h3]
     have hV := wval_all (r := r) hs d (by omega)
     have e : (12 - d : Int) = (12 - ((d + 1 : Nat) : Int)) + 1 := by omega
     rw [e] at hV
     exact wvalue_go _ (by omega) (by omega) hs hV h (by omega) (by omega) _ (Lib.hid rfl)
def RefPost (R : PR JV) (w : World) (e : Ending) (w' : World) : Prop :=
 Below w.heap.size w w' ∧ match R with
   | .bad p er => e = .returned (.tuple #[zeroV, .int .i64 p, .int .i64 er])
   | .ok V _ _ => ∃ x : VC, e = .returned (.tuple #[x.val, .int .i64 0, .int .i64 0]) ∧ NewV w.heap.size w' V x.val
def wkZero (s : ByteArray) : Array Value := #[.string s, .int .u8 0, .int .i64 0, .int .i64 0, .int .i64 0, .string ⟨#[]⟩, .int .i64 0, .int .i64 0, .int .i64 0, .int .i64 0]
theorem WBad.cells {w : World} {r : Nat} {s : ByteArray} {p : Nat} {e : Int} (h : WBad w r s p e) : w.cell? ⟨r, 8, none⟩ = some (.int .i64 p) ∧ w.cell? ⟨r, 9, none⟩ = some (.int .i64 e) ∧ r < w.heap.size := by
 obtain ⟨m, a, n, h⟩ := h
 obtain ⟨-, -, -, -, -, -, -, -, c8, c9, -⟩ := wk10 h
 exact ⟨c8, c9, BlkAt.lt h⟩
set_option maxHeartbeats 8000000 in
theorem wread_any (s : ByteArray) (w : World) (hs : s.size ≤ 9223372036854775807) (R : PR JV) (hR : Hid (readV s.data.toList = R)) :
   Calls Tryz.prog 18 #[.string s] w (RefPost R w) := by
 have hr := hR.out
 unfold readV at hr
 rw [size_len] at hr
 by_cases hl : 65536 < s.size
 · rw [if_pos hl] at hr
   subst hr
   have hl' : (65536 : Int) < (s.size : Int) := by omega
   clear hR hl
   go_enter Tryz.func18, Tryz.ntmps18
   go_wp2_with fail
   exact bodyPost_ret (v := .tuple #[zeroV, .int .i64 0, .int .i64 5]) (by simp [results, Tryz.results18, go_sem, zeroV]) rfl ⟨bel_alloc (Below.refl _ _) _, rfl⟩
 rw [if_neg hl] at hr
 have hl' : ¬ (65536 : Int) < (s.size : Int) := by omega
 have hs' : s.size ≤ 65536 := by omega
 obtain ⟨W0, hW0⟩ : ∃ W0, W0 = (w.alloc (.cells zeroCs 26)).alloc (.cells (wkZero s) 75) := ⟨_, rfl⟩
 have HG0 : Hid (w.grownBy W0 (some (w.heap.size + 1))) := by rw [hW0]; exact grown_alloc (grown_alloc (World.grownBy.refl _ _) _) _
 have HSt0 : Hid (WSt W0 (w.heap.size + 1) s ⟨0, 0, 0, 0, []⟩ (lexes s.data.toList 0) 0) := by
   rw [hW0]
   refine ⟨?_, Nat.zero_le _, by simp, by decide, by decide, by decide⟩
   have := blkAt_new (w.alloc (.cells zeroCs 26)) (wkZero s) 75
   rwa [size_al] at this
 have HRB : Hid (BlkAt W0 w.heap.size 26 zeroCs) := by rw [hW0]; exact (blkAt_new w zeroCs 26).alloc _
 have HS0 : Hid (W0.heap.size = w.heap.size + 2) := by rw [hW0]; show _ = _; rw [size_al, size_al]
 cases hlx : lexes s.data.toList 0 with
 | nil => exact absurd hlx (lexes_ne _ _)
 | cons x0 tl =>
   rw [hlx] at hr HSt0
   cases x0 with
   | err p e =>
     dsimp only [nextL] at hr
     subst hr
     have HN := Lib.hid (wnext_err hs' HSt0.out (by decide) (Lib.hid rfl))
     subst hW0
     clear hR hl hlx
     go_enter Tryz.func18, Tryz.ntmps18
     go_wp2_with fail
     refine HN.out.mono ?_
     rintro e' w1 ⟨rfl, hg1, hb1⟩
     obtain ⟨z0, z1, z2, z3, z4, zf⟩ := blk5 (HRB.out.grown hg1 (by intro e; have e2 : w.heap.size = w.heap.size + 1 := Option.some.inj e; omega))
     obtain ⟨hpc, hec, hrl⟩ := hb1.cells
     have hbel := below_of_grown (HG0.out.trans hg1) (by omega)
     go_wp2_with fail
     go_region
     go_wp2_with fail
     exact bodyPost_ret (v := .tuple #[zeroV, .int .i64 p, .int .i64 e]) (by simp [results, Tryz.results18, go_sem, zeroV, z0, z1, z2, z3, z4]) rfl ⟨bel_drew (bel_set5 hbel (Nat.le_refl _) _ _ _ _ _), rfl⟩
   | tok m =>
     dsimp only [nextL] at hr
     unfold topP at hr
     have HN := Lib.hid (wnext_tok hs' HSt0.out (by decide) (Lib.hid rfl))
     obtain ⟨R1, hR1⟩ : ∃ R1, valP 12 m tl 0 = R1 := ⟨_, rfl⟩
     rw [hR1] at hr
     have HR1 := Lib.hid hR1
     subst hW0
     clear hR hl hlx hR1
     go_enter Tryz.func18, Tryz.ntmps18
     go_wp2_with fail
     refine HN.out.mono ?_
     rintro e' w1 ⟨rfl, hg1, hst1⟩
     have HZ1 : Hid (BlkAt w1 w.heap.size 26 zeroCs) := HRB.out.grown hg1 (by intro e; have e2 : w.heap.size = w.heap.size + 1 := Option.some.inj e; omega)
     have HG1 : Hid (w.grownBy w1 (some (w.heap.size + 1))) := HG0.out.trans hg1
     have hs1 := hg1.size
     rw [HS0.out] at hs1
     have HC : Hid (Calls Tryz.prog 35 #[.pointer (some ⟨w.heap.size + 1, 0, none⟩), .int .i64 0] w1 (WPost R1 s (w.heap.size + 1) w1)) := by
       have := wval_all (r := w.heap.size + 1) hs' 12 (Nat.le_refl _) w1 m tl 0 hst1 (by omega)
       rw [HR1.out] at this
       exact this
     clear hst1 hg1 HN HRB HG0 HSt0 HS0
     cases R1 with
     | bad p er =>
       dsimp only at hr
       subst hr
       go_wp2_with fail
       refine HC.out.mono ?_
       rintro e' w2 ⟨hg2, rfl, hb2⟩
       have hs2 := hg2.size
       have hbA : Below w2.heap.size w2 (w2.alloc (.cells #[.int .u8 0, .int .i64 0, .string ⟨#[]⟩, .slice none 0 0, .slice none 0 0] 26)) := bel_alloc (Below.refl _ _) _
       have HZ3 : Hid (BlkAt (w2.alloc (.cells #[.int .u8 0, .int .i64 0, .string ⟨#[]⟩, .slice none 0 0, .slice none 0 0] 26)) w.heap.size 26 zeroCs) := (HZ1.out.grown hg2 (by intro e; have e2 : w.heap.size = w.heap.size + 1 := Option.some.inj e; omega)).alloc _
       have hb3 := hb2.same (hbA.block (w.heap.size + 1) (by omega))
       have hbel := below_more (below_of_grown (HG1.out.trans hg2) (by omega)) hbA
       clear hg2 hb2 hbA
       simp only [zeroV]
       go_wp2_with fail
       generalize w2.alloc (.cells #[.int .u8 0, .int .i64 0, .string ⟨#[]⟩, .slice none 0 0, .slice none 0 0] 26) = w3 at HZ3 hb3 hbel ⊢
       obtain ⟨z0, z1, z2, z3, z4, zf⟩ := blk5 HZ3.out
       obtain ⟨hpc, hec, hrl⟩ := hb3.cells
       go_region
       go_wp2_with fail
       exact bodyPost_ret (v := .tuple #[zeroV, .int .i64 p, .int .i64 er]) (by simp [results, Tryz.results18, go_sem, zeroV, z0, z1, z2, z3, z4]) rfl ⟨bel_drew (bel_set5 hbel (Nat.le_refl _) _ _ _ _ _), rfl⟩
     | ok V ms1 c1 =>
       dsimp only at hr
       unfold endP at hr
       go_wp2_with fail
       refine HC.out.mono ?_
       rintro e' w2 ⟨hg2, ⟨xk, xn, xt, xa, xl, xc, xb, xm, xe⟩, m1, rfl, hnew, hst2, hk1⟩
       simp only [VC.val]
       have hs2 := hg2.size
       have hbA : Below w2.heap.size w2 (w2.alloc (.cells #[.int .u8 xk, .int .i64 xn, .string xt, .slice xa xl xc, .slice xb xm xe] 26)) := bel_alloc (Below.refl _ _) _
       have HZ2 : Hid (BlkAt (w2.alloc (.cells #[.int .u8 xk, .int .i64 xn, .string xt, .slice xa xl xc, .slice xb xm xe] 26)) w.heap.size 26 zeroCs) := (HZ1.out.grown hg2 (by intro e; have e2 : w.heap.size = w.heap.size + 1 := Option.some.inj e; omega)).alloc _
       have HX2 : Hid (BlkAt (w2.alloc (.cells #[.int .u8 xk, .int .i64 xn, .string xt, .slice xa xl xc, .slice xb xm xe] 26)) w2.heap.size 26 #[.int .u8 xk, .int .i64 xn, .string xt, .slice xa xl xc, .slice xb xm xe]) := blkAt_new w2 _ _
       have HG2 : Hid (w.grownBy (w2.alloc (.cells #[.int .u8 xk, .int .i64 xn, .string xt, .slice xa xl xc, .slice xb xm xe] 26)) (some (w.heap.size + 1))) := grown_alloc (HG1.out.trans hg2) _
       have hst3 := hst2.keep hbA
       have HNew := Lib.hid hnew
       have hsA : (w2.alloc (.cells #[.int .u8 xk, .int .i64 xn, .string xt, .slice xa xl xc, .slice xb xm xe] 26)).heap.size = w2.heap.size + 1 := size_al _ _
       have HWA := Lib.hid (show ∀ k, k < w2.heap.size → (w2.alloc (.cells #[.int .u8 xk, .int .i64 xn, .string xt, .slice xa xl xc, .slice xb xm xe] 26)).heap[k]? = w2.heap[k]? from fun k hk => hbA.block k hk)
       clear hg2 hst2 hnew HC HZ1 HG1 hbA
       match ms1 with
       | [] => exact absurd hst3.nonil hk1
       | .err p er :: tl2 =>
         dsimp only [nextL] at hr
         subst hr
         have HN := Lib.hid (wnext_err hs' hst3 hk1 (Lib.hid rfl))
         clear hst3
         go_wp2_with fail
         generalize w2.alloc (.cells #[.int .u8 xk, .int .i64 xn, .string xt, .slice xa xl xc, .slice xb xm xe] 26) = wA at HN HZ2 HG2 hsA ⊢
         refine HN.out.mono ?_
         rintro e' w3 ⟨rfl, hg3, hb3⟩
         obtain ⟨z0, z1, z2, z3, z4, zf⟩ := blk5 (HZ2.out.grown hg3 (by intro e; have e2 : w.heap.size = w.heap.size + 1 := Option.some.inj e; omega))
         obtain ⟨hpc, hec, hrl⟩ := hb3.cells
         have hbel := below_of_grown (HG2.out.trans hg3) (by omega)
         go_wp2_with fail
         go_region
         go_wp2_with fail
         exact bodyPost_ret (v := .tuple #[zeroV, .int .i64 p, .int .i64 er]) (by simp [results, Tryz.results18, go_sem, zeroV, z0, z1, z2, z3, z4]) rfl ⟨bel_drew (bel_set5 hbel (Nat.le_refl _) _ _ _ _ _), rfl⟩
       | .tok m2 :: r2 =>
         dsimp only [nextL] at hr
         have HN := Lib.hid (wnext_tok hs' hst3 hk1 (Lib.hid rfl))
         clear hst3
         go_wp2_with fail
         generalize w2.alloc (.cells #[.int .u8 xk, .int .i64 xn, .string xt, .slice xa xl xc, .slice xb xm xe] 26) = wA at HN HZ2 HX2 HG2 hsA HWA ⊢
         refine HN.out.mono ?_
         rintro e' w3 ⟨rfl, hg3, hst4⟩
         have hs3 := hg3.size
         obtain ⟨z0, z1, z2, z3, z4, zf⟩ := blk5 (HZ2.out.grown hg3 (by intro e; have e2 : w.heap.size = w.heap.size + 1 := Option.some.inj e; omega))
         obtain ⟨x0, x1, x2, x3, x4, xf⟩ := blk5 (HX2.out.grown hg3 (by intro e; have e2 : w2.heap.size = w.heap.size + 1 := Option.some.inj e; omega))
         obtain ⟨d0, d1, d2, d3, -⟩ := wk10 hst4.blk
         have hrl := hst4.lt
         have hbel := below_of_grown (HG2.out.trans hg3) (by omega)
         by_cases h11 : m2.k = 11
         · rw [if_neg (by simpa using h11)] at hr
           subst hr
           have hb11 : (m2.k != 11) = false := by rw [h11]; rfl
           have HNW := Lib.hid (show NewV w.heap.size (((((w3.setCell ⟨w.heap.size, 0, none⟩ (.int .u8 xk)).setCell ⟨w.heap.size, 1, none⟩ (.int .i64 xn)).setCell ⟨w.heap.size, 2, none⟩ (.string xt)).setCell ⟨w.heap.size, 3, none⟩ (.slice xa xl xc)).setCell ⟨w.heap.size, 4, none⟩ (.slice xb xm xe)) V (VC.val ⟨xk, xn, xt, xa, xl, xc, xb, xm, xe⟩) from HNew.out.carry fun k hk hP => by
             have h1 := offB_none.1 hP
             exact ⟨offB_none.2 (by omega), (heap_set5 _ _ _ _ _ _ _ _ (by omega)).trans ((hg3.block k (by omega) (fun e => by have e2 : k = w.heap.size + 1 := Option.some.inj e; omega)).trans (HWA.out k hk))⟩)
           clear h11 hst4 hg3
           go_wp2_with fail
           exact bodyPost_ret (v := .tuple #[.agg #[.int .u8 xk, .int .i64 xn, .string xt, .slice xa xl xc, .slice xb xm xe], .int .i64 0, .int .i64 0]) (by simp [results, Tryz.results18, go_sem, z0, z1, z2, z3, z4]) rfl ⟨bel_set5 hbel (Nat.le_refl _) _ _ _ _ _, ⟨xk, xn, xt, xa, xl, xc, xb, xm, xe⟩, rfl, HNW.out⟩
         · rw [if_pos h11] at hr
           subst hr
           have hb11 : (m2.k != 11) = true := by rw [bne_iff_ne]; exact h11
           clear h11 hst4 hg3
           go_wp2_with fail
           go_region
           go_wp2_with fail
           exact bodyPost_ret (v := .tuple #[zeroV, .int .i64 m2.a, .int .i64 11]) (by simp [results, Tryz.results18, go_sem, zeroV, z0, z1, z2, z3, z4]) rfl ⟨bel_drew (bel_set5 hbel (Nat.le_refl _) _ _ _ _ _), rfl⟩
end

section
set_option maxRecDepth 100000
open Go.RowKit
set_option maxHeartbeats 8000000 in
theorem dRead_any (s : ByteArray) (w : World) (hs : s.size ≤ 9223372036854775807) (hne : ∀ p e, readV s.data.toList = .bad p e → e ≠ 0) :
   Calls Tryz.prog 8 #[.string s] w (EnvPost (envT s.data.toList) w) := by
 have HB1 : Hid (Below w.heap.size w (w.alloc (.cells #[.int .u8 0, .int .i64 0, .string ⟨#[]⟩, .slice none 0 0, .slice none 0 0, .slice none 0 0] 29))) := bel_alloc (Below.refl _ _) _
 have HR1 : Hid (BlkAt (w.alloc (.cells #[.int .u8 0, .int .i64 0, .string ⟨#[]⟩, .slice none 0 0, .slice none 0 0, .slice none 0 0] 29)) w.heap.size 29 #[.int .u8 0, .int .i64 0, .string ⟨#[]⟩, .slice none 0 0, .slice none 0 0, .slice none 0 0]) := blkAt_new w _ _
 have hs1 := size_al w (.cells #[.int .u8 0, .int .i64 0, .string ⟨#[]⟩, .slice none 0 0, .slice none 0 0, .slice none 0 0] 29)
 cases hr : readV s.data.toList with
 | bad p e =>
   have he : envT s.data.toList = .bad e := by rw [envT, hr]
   have hne' := hne p e hr
   rw [he]
   have HRD := Lib.hid (fun W => wread_any s W hs (.bad p e) (Lib.hid hr))
   have heb : (e != 0) = true := by rw [bne_iff_ne]; exact hne'
   have HNE := Lib.hid hne'
   clear hr he hne hne'
   go_enter Tryz.func8, Tryz.ntmps8
   go_wp2_with fail
   generalize w.alloc (.cells #[.int .u8 0, .int .i64 0, .string ⟨#[]⟩, .slice none 0 0, .slice none 0 0, .slice none 0 0] 29) = w1 at HB1 HR1 hs1 ⊢
   refine (HRD.out _).mono ?_
   rintro e' w2 ⟨hb2, rfl⟩
   have hr2 := BlkAt.keep HR1.out hb2
   have hbb2 := below_more HB1.out hb2
   obtain ⟨r0, r1, r2, r3, r4, r5, rf⟩ := b6' hr2
   have hrl := BlkAt.lt hr2
   have hn1 : ¬ w.heap.size = w2.heap.size := by omega
   have hn2 : ¬ w2.heap.size = w.heap.size := by omega
   have HBB := Lib.hid hbb2
   have HRA := Lib.hid hr2
   simp only [zeroV]
   clear hb2 hr2 hbb2
   go_wp2_with fail
   obtain ⟨q0, q1, q2, q3, q4, q5, -⟩ := b6' (((blk6_set5 HRA.out (.int .u8 0) (.int .i64 0) (.string ⟨#[]⟩) (.slice none 0 0) (.slice none 0 0)).set 5 (.slice none 0 0)).alloc (.cells #[.int .u8 0, .int .i64 0, .string ⟨#[]⟩, .slice none 0 0, .slice none 0 0] 26))
   have HBF := bel_alloc (bel_set6 HBB.out (Nat.le_refl _) (.int .u8 0) (.int .i64 0) (.string ⟨#[]⟩) (.slice none 0 0) (.slice none 0 0) (.slice none 0 0)) (.cells #[.int .u8 0, .int .i64 0, .string ⟨#[]⟩, .slice none 0 0, .slice none 0 0] 26)
   clear r0 r1 r2 r3 r4 r5 rf hn1 hn2
   exact bodyPost_ret (v := .tuple #[.agg #[.int .u8 0, .int .i64 0, .string ⟨#[]⟩, .slice none 0 0, .slice none 0 0, .slice none 0 0], .int .i64 e]) (by simp [results, Tryz.results8, go_sem, q0, q1, q2, q3, q4, q5]) rfl ⟨HBF, rfl, HNE.out⟩
 | ok V ms c =>
   have he : envT s.data.toList = envV V := by rw [envT, hr]
   have HRD := Lib.hid (fun W => wread_any s W hs (.ok V ms c) (Lib.hid hr))
   have hm := (read_may hr).1
   have hwt := wt_may hm
   rw [he]
   obtain ⟨R, hR⟩ : ∃ R, envV V = R := ⟨_, rfl⟩
   rw [hR]
   have HR := Lib.hid hR
   have HWT := Lib.hid hwt
   clear hr he hne hm hwt hR
   go_enter Tryz.func8, Tryz.ntmps8
   go_wp2_with fail
   generalize w.alloc (.cells #[.int .u8 0, .int .i64 0, .string ⟨#[]⟩, .slice none 0 0, .slice none 0 0, .slice none 0 0] 29) = w1 at HB1 HR1 hs1 ⊢
   refine (HRD.out _).mono ?_
   rintro e' w2 ⟨hb2, ⟨xk, xn, xt, xa, xl, xc, xb, xm, xe⟩, rfl, hnew⟩
   have hr2 := BlkAt.keep HR1.out hb2
   have hbb2 := below_more HB1.out hb2
   obtain ⟨r0, r1, r2, r3, r4, r5, rf⟩ := b6' hr2
   have hrl := BlkAt.lt hr2
   have hn1 : ¬ w.heap.size = w2.heap.size := by omega
   have hn2 : ¬ w2.heap.size = w.heap.size := by omega
   have HBB := Lib.hid hbb2
   have HR2 := Lib.hid hr2
   have HNEW := Lib.hid hnew
   simp only [VC.val]
   clear hb2 hr2 hbb2 hnew HB1 HR1
   go_wp2_with fail
   have hbx : Below w2.heap.size w2 (w2.alloc (.cells #[.int .u8 xk, .int .i64 xn, .string xt, .slice xa xl xc, .slice xb xm xe] 26)) := bel_alloc (Below.refl _ _) _
   have HQS : Hid (∀ p u, (hidden (offB w1.heap.size none) w2).cell? p = some u → (w2.alloc (.cells #[.int .u8 xk, .int .i64 xn, .string xt, .slice xa xl xc, .slice xb xm xe] 26)).cell? p = some u) := fun p u hu => cell_keep hbx ((hidden_cell _ _ _ _).1 hu).2.2
   have hs2x := size_al w2 (.cells #[.int .u8 xk, .int .i64 xn, .string xt, .slice xa xl xc, .slice xb xm xe] 26)
   have HX2 := Lib.hid (below_more HBB.out hbx)
   have HR3 := Lib.hid (BlkAt.keep HR2.out hbx)
   have HBX := Lib.hid hbx
   generalize w2.alloc (.cells #[.int .u8 xk, .int .i64 xn, .string xt, .slice xa xl xc, .slice xb xm xe] 26) = w2x at HQS hs2x HX2 HR3 HBX ⊢
   refine (dEnv_any V ⟨xk, xn, xt, xa, xl, xc, xb, xm, xe⟩ (hidden (offB w1.heap.size none) w2) w2x HNEW.out HQS.out HWT.out R HR).mono ?_
   rintro e w3 ⟨hb3, hpost⟩
   have hr3 := BlkAt.keep HR3.out hb3
   have hbb3 := below_more HX2.out hb3
   have HRA := Lib.hid hr3
   have HB3 := Lib.hid hbb3
   have HX3 := Lib.hid (below_more HBX.out hb3)
   obtain ⟨r0, r1, r2, r3, r4, r5, rf⟩ := b6' hr3
   clear hr3 hbb3 hb3 hbx HX2
   cases R with
   | bad er =>
     obtain ⟨rfl, hne⟩ := hpost
     have HNE := Lib.hid hne
     simp only [zEnv]
     clear hne
     go_wp2_with fail
     obtain ⟨q0, q1, q2, q3, q4, q5, -⟩ := b6' ((blk6_set5 HRA.out (.int .u8 0) (.int .i64 0) (.string ⟨#[]⟩) (.slice none 0 0) (.slice none 0 0)).set 5 (.slice none 0 0))
     have HBF := bel_set6 HB3.out (Nat.le_refl _) (.int .u8 0) (.int .i64 0) (.string ⟨#[]⟩) (.slice none 0 0) (.slice none 0 0) (.slice none 0 0)
     clear r0 r1 r2 r3 r4 r5 rf hn1 hn2
     exact bodyPost_ret (v := .tuple #[.agg #[.int .u8 0, .int .i64 0, .string ⟨#[]⟩, .slice none 0 0, .slice none 0 0, .slice none 0 0], .int .i64 er]) (by simp [results, Tryz.results8, go_sem, q0, q1, q2, q3, q4, q5]) rfl ⟨HBF, rfl, HNE.out⟩
   | ok z =>
     obtain ⟨⟨yk, yn, yt, ya, yl, yc, yb, ym, ye⟩, a, c, rfl, hvy, hsg⟩ := hpost
     have HVY := Lib.hid hvy
     have HSG := Lib.hid hsg
     simp only [envVal]
     clear hvy hsg
     go_wp2_with fail
     obtain ⟨q0, q1, q2, q3, q4, q5, -⟩ := b6' ((blk6_set5 HRA.out (.int .u8 yk) (.int .i64 yn) (.string yt) (.slice ya yl yc) (.slice yb ym ye)).set 5 (.slice a z.1.length c))
     have HBF := bel_set6 HB3.out (Nat.le_refl _) (.int .u8 yk) (.int .i64 yn) (.string yt) (.slice ya yl yc) (.slice yb ym ye) (.slice a z.1.length c)
     clear r0 r1 r2 r3 r4 r5 rf hn1 hn2
     refine bodyPost_ret (v := .tuple #[envVal ⟨yk, yn, yt, ya, yl, yc, yb, ym, ye⟩ a z.1.length c, .int .i64 0]) (by simp [results, Tryz.results8, go_sem, envVal, q0, q1, q2, q3, q4, q5]) rfl ⟨HBF, ⟨yk, yn, yt, ya, yl, yc, yb, ym, ye⟩, a, c, rfl, ?_, ?_⟩
     · refine HVY.out.imp (hid_imp fun k hk ho => ?_)
       have h1 := offB_none.1 ho
       exact ⟨offB_none.2 (by omega), (heap_set6k _ _ _ _ _ _ _ _ _ (by omega)).trans (HX3.out.block k hk)⟩
     · refine HSG.out.imp (hid_imp fun k hk ho => ?_)
       have h1 := offB_none.1 ho
       exact ⟨offB_none.2 (by omega), heap_set6k _ _ _ _ _ _ _ _ _ (by omega)⟩
end

section
set_option maxRecDepth 100000
open Go.RowKit
set_option maxHeartbeats 8000000 in
theorem signReads_walk (s : ByteArray) (w : World) (w0 : s.size ≤ maxLen) (henv : NumEnv w) :
   Calls Tryz.prog 3 #[.string s] w fun e w' => e = .returned (.bool true) ∧ Below w.heap.size w w' := by
 unfold maxLen at w0
 have HAW := Lib.hid (fun W (hb : Below w.heap.size w W) => awake16_any W (henv.below hb) (henv.below hb).1)
 by_cases hl : 12000 < s.size
 · have hd : decide (12000 < (s.size : Int)) = true := by simp; omega
   have hd' : decide (12000 < s.size) = true := decide_eq_true hl
   go_enter Tryz.func3, Tryz.ntmps3
   go_wp2_with fail
   refine (HAW.out _ (Below.refl _ _)).mono ?_
   rintro e w3 ⟨rfl, hb3⟩
   go_wp2_with fail
   go_ret
   exact ⟨rfl, hb3⟩
 have hd : decide (12000 < (s.size : Int)) = false := by simp; omega
 have hd' : decide (12000 < s.size) = false := decide_eq_false hl
 obtain ⟨R, hR⟩ : ∃ R, envT s.data.toList = R := ⟨_, rfl⟩
 have hp := pRead_any s w (by omega) henv
 have hq := fun W hne => dRead_any s W (by omega) hne
 rw [hR] at hp
 rw [hR] at hq
 have HP := Lib.hid hp
 have HQ := Lib.hid hq
 have HR := Lib.hid hR
 clear hp hq hR henv
 cases R with
 | bad er =>
   have HSM : Hid (∀ Y, Calls Tryz.prog 9 #[.agg #[.int .u8 0, .int .i64 0, .string ⟨#[]⟩, .slice none 0 0, .slice none 0 0, .slice none 0 0], .agg #[.int .u8 0, .int .i64 0, .string ⟨#[]⟩, .slice none 0 0, .slice none 0 0, .slice none 0 0]] Y fun e w' => e = .returned (.bool true) ∧ Below Y.heap.size Y w') :=
     fun Y => same16_yes zJ [] zC zC none none 0 0 0 Y rfl (valAt_z Y) (valAt_z Y) ⟨none, 0, rfl, fun i s h => by simp at h⟩ ⟨none, 0, rfl, fun i s h => by simp at h⟩ (by decide)
   go_enter Tryz.func3, Tryz.ntmps3
   go_wp2_with fail
   refine HP.out.mono ?_
   rintro e w1 ⟨hb1, rfl, hne⟩
   have hnv : ∀ p e, readV s.data.toList = .bad p e → e ≠ 0 := fun p e h => by
     have := HR.out
     rw [envT, h] at this
     cases this
     exact hne
   have HNV := Lib.hid hnv
   have heq : (er == er) = true := by simp
   have HB1 := Lib.hid (bel_alloc hb1 (.cells #[.int .u8 0, .int .i64 0, .string ⟨#[]⟩, .slice none 0 0, .slice none 0 0, .slice none 0 0] 29))
   have HK1 : Hid (BlkAt (w1.alloc (.cells #[.int .u8 0, .int .i64 0, .string ⟨#[]⟩, .slice none 0 0, .slice none 0 0, .slice none 0 0] 29)) w1.heap.size 29 #[.int .u8 0, .int .i64 0, .string ⟨#[]⟩, .slice none 0 0, .slice none 0 0, .slice none 0 0]) := blkAt_new w1 _ _
   clear hnv hb1 hne
   simp only [zEnv]
   go_wp2_with fail
   generalize w1.alloc (.cells #[.int .u8 0, .int .i64 0, .string ⟨#[]⟩, .slice none 0 0, .slice none 0 0, .slice none 0 0] 29) = w2 at HB1 HK1 ⊢
   generalize w1.heap.size = b1 at HK1 ⊢
   refine (HQ.out _ HNV.out).mono ?_
   rintro e w3 ⟨hb3, rfl, -⟩
   have HB3 := Lib.hid (bel_alloc (below_more HB1.out hb3) (.cells #[.int .u8 0, .int .i64 0, .string ⟨#[]⟩, .slice none 0 0, .slice none 0 0, .slice none 0 0] 29))
   obtain ⟨k0, k1, k2, k3, k4, k5, kf⟩ := b6' (BlkAt.keep HK1.out (bel_alloc hb3 (.cells #[.int .u8 0, .int .i64 0, .string ⟨#[]⟩, .slice none 0 0, .slice none 0 0, .slice none 0 0] 29)))
   clear hb3 HK1
   simp only [zEnv]
   go_wp2_with fail
   refine (HSM.out _).mono ?_
   rintro e w4 ⟨rfl, hb4⟩
   have HB4 := Lib.hid (below_more HB3.out hb4)
   clear hb4 k0 k1 k2 k3 k4 k5 kf
   go_wp2_with fail
   refine (HAW.out _ HB4.out).mono ?_
   rintro e w5 ⟨rfl, hb5⟩
   have HB5 := Lib.hid (below_more HB4.out hb5)
   clear hb5
   go_wp2_with fail
   go_ret
   exact ⟨rfl, HB5.out⟩
 | ok x =>
   obtain ⟨l, X⟩ := x
   go_enter Tryz.func3, Tryz.ntmps3
   go_wp2_with fail
   refine HP.out.mono ?_
   rintro e w1 ⟨hb1, ⟨xk, xn, xt, xa, xl, xc, xb, xm, xe⟩, sa, sc, rfl, hv1, hs1⟩
   have HNV : Hid (∀ p e, readV s.data.toList = .bad p e → e ≠ 0) := fun p e h => by
     have := HR.out
     rw [envT, h] at this
     cases this
   have hl1000 : l.length ≤ 1000 := by have := env_len HR.out; omega
   obtain ⟨n, hn⟩ : ∃ n, l.length = n := ⟨_, rfl⟩
   simp only [hn] at hs1 ⊢
   rw [hn] at hl1000
   have hbx := bel_alloc (Below.refl w1.heap.size w1) (.cells #[.int .u8 xk, .int .i64 xn, .string xt, .slice xa xl xc, .slice xb xm xe, .slice sa n sc] 29)
   have HB1 := Lib.hid (below_more hb1 hbx)
   have HK1 : Hid (BlkAt (w1.alloc (.cells #[.int .u8 xk, .int .i64 xn, .string xt, .slice xa xl xc, .slice xb xm xe, .slice sa n sc] 29)) w1.heap.size 29 #[.int .u8 xk, .int .i64 xn, .string xt, .slice xa xl xc, .slice xb xm xe, .slice sa n sc]) := blkAt_new w1 _ _
   have HV1 := Lib.hid (hv1.bare.keep hbx)
   have HS1 : Hid (SigsAt (w1.alloc (.cells #[.int .u8 xk, .int .i64 xn, .string xt, .slice xa xl xc, .slice xb xm xe, .slice sa n sc] 29)) (.slice sa n sc) l) := SigsAt.keep (hs1.imp fun p u hu => ((hidden_cell _ _ _ _).1 hu).2.2) hbx
   have HN := Lib.hid hn
   clear hb1 hv1 hs1 hbx
   simp only [envVal]
   go_wp2_with fail
   generalize w1.alloc (.cells #[.int .u8 xk, .int .i64 xn, .string xt, .slice xa xl xc, .slice xb xm xe, .slice sa n sc] 29) = w2 at HB1 HK1 HV1 HS1 ⊢
   generalize w1.heap.size = b1 at HK1 ⊢
   refine (HQ.out _ HNV.out).mono ?_
   rintro e w3 ⟨hb3, ⟨yk, yn, yt, ya, yl, yc, yb, ym, ye⟩, ta, tc, rfl, hv3, hs3⟩
   simp only [HN.out] at hs3 ⊢
   have hby := bel_alloc (Below.refl w3.heap.size w3) (.cells #[.int .u8 yk, .int .i64 yn, .string yt, .slice ya yl yc, .slice yb ym ye, .slice ta n tc] 29)
   have hb4 := below_more hb3 hby
   have HB3 := Lib.hid (below_more HB1.out hb4)
   obtain ⟨k0, k1, k2, k3, k4, k5, kf⟩ := b6' (BlkAt.keep HK1.out hb4)
   have HV3 := Lib.hid (hv3.bare.keep hby)
   have HS3 : Hid (SigsAt (w3.alloc (.cells #[.int .u8 yk, .int .i64 yn, .string yt, .slice ya yl yc, .slice yb ym ye, .slice ta n tc] 29)) (.slice ta n tc) l) := SigsAt.keep (hs3.imp fun p u hu => ((hidden_cell _ _ _ _).1 hu).2.2) hby
   have HV2 := Lib.hid (HV1.out.keep hb4)
   have HS2 := Lib.hid (HS1.out.keep hb4)
   have HSM : Hid (Calls Tryz.prog 9 #[.agg #[.int .u8 xk, .int .i64 xn, .string xt, .slice xa xl xc, .slice xb xm xe, .slice sa n sc], .agg #[.int .u8 yk, .int .i64 yn, .string yt, .slice ya yl yc, .slice yb ym ye, .slice ta n tc]] (w3.alloc (.cells #[.int .u8 yk, .int .i64 yn, .string yt, .slice ya yl yc, .slice yb ym ye, .slice ta n tc] 29)) fun e w' => e = .returned (.bool true) ∧ Below (w3.alloc (.cells #[.int .u8 yk, .int .i64 yn, .string yt, .slice ya yl yc, .slice yb ym ye, .slice ta n tc] 29)).heap.size (w3.alloc (.cells #[.int .u8 yk, .int .i64 yn, .string yt, .slice ya yl yc, .slice yb ym ye, .slice ta n tc] 29)) w') :=
     same16_yes X l ⟨xk, xn, xt, xa, xl, xc, xb, xm, xe⟩ ⟨yk, yn, yt, ya, yl, yc, yb, ym, ye⟩ sa ta n sc tc _ HN.out HV2.out HV3.out HS2.out HS3.out hl1000
   clear hb3 hb4 hby hv3 hs3 HK1 HV1 HS1 HV2 HS2 HV3 HS3
   simp only [envVal]
   go_wp2_with fail
   refine HSM.out.mono ?_
   rintro e w4 ⟨rfl, hb4⟩
   have HB4 := Lib.hid (below_more HB3.out hb4)
   clear hb4 k0 k1 k2 k3 k4 k5 kf HSM
   go_wp2_with fail
   refine (HAW.out _ HB4.out).mono ?_
   rintro e w5 ⟨rfl, hb5⟩
   have HB5 := Lib.hid (below_more HB4.out hb5)
   clear hb5
   go_wp2_with fail
   go_ret
   exact ⟨rfl, HB5.out⟩
end
end Go.Proofs.YtmggmpigpiaagaaGreatDoor
