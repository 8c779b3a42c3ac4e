/-
 The walk of ChartPath.
-/
import Derived.Test.YtopepakencpegaaGreatDoorChartLb
namespace Go.Proofs.YtopepakencpegaaGreatDoor
set_option maxRecDepth 100000
open Go.RowKit
set_option maxHeartbeats 16000000 in
theorem chartPath_walk (M : MapP) (p : ByteArray) (v : Value) (w : World) (h : MapAt w v M) (hp : p.size ≤ maxLen) (henv : NumEnv w) :
   Calls Tryz.prog 4 #[v, .string p] w fun e w' => e = .returned (.bool true) ∧ Below w.heap.size w w' := by
 have HMH := Lib.hid h
 have HNE : Hid (∀ W, Below w.heap.size w W → NumEnv W) := fun W hb => henv.below hb
 have HAW := Lib.hid (fun W (hb : Below w.heap.size w W) => awake25_any W (henv.below hb))
 obtain ⟨a1, c1, a2, c2, rfl, -, hm⟩ := h.parts
 obtain ⟨ma', mc', e1, -, hmc⟩ := hm.at
 simp only [Value.slice.injEq, true_and] at e1
 obtain ⟨rfl, rfl⟩ := e1
 obtain ⟨n1, hn1⟩ : ∃ n, M.repos.length = n := ⟨_, rfl⟩
 obtain ⟨n2, hn2⟩ : ∃ n, M.maps.length = n := ⟨_, rfl⟩
 rw [hn1, hn2] at HMH ⊢
 obtain ⟨w1, hw1⟩ : ∃ y, y = w.alloc (.cells #[.slice a1 n1 c1, .slice a2 n2 c2] 32) := ⟨_, rfl⟩
 obtain ⟨w2, hw2⟩ : ∃ y, y = w1.alloc (.cells #[.slice a1 n1 c1, .slice a2 n2 c2] 32) := ⟨_, rfl⟩
 have hb1 : Below w.heap.size w w1 := by rw [hw1]; exact bel_alloc (Below.refl _ _) _
 have hb2 : Below w1.heap.size w1 w2 := by rw [hw2]; exact bel_alloc (Below.refl _ _) _
 have e1 : w1.heap.size = w.heap.size + 1 := by rw [hw1, size_al]
 have k1 : BlkAt w1 w.heap.size 32 #[.slice a1 n1 c1, .slice a2 n2 c2] := by rw [hw1]; exact blkAt_new w _ _
 have k2 : BlkAt w2 (w.heap.size + 1) 32 #[.slice a1 n1 c1, .slice a2 n2 c2] := by rw [hw2, ← e1]; exact blkAt_new w1 _ _
 have K1 := Lib.hid (BlkAt.keep k1 hb2)
 have B2 := Lib.hid (below_more hb1 hb2)
 have M2 := Lib.hid (HMH.out.keep (below_more hb1 hb2))
 have W2 : Hid (w2 = (w.alloc (.cells #[.slice a1 n1 c1, .slice a2 n2 c2] 32)).alloc (.cells #[.slice a1 n1 c1, .slice a2 n2 c2] 32)) := by show _ = _; rw [hw2, hw1]
 have HMC := Lib.hid hmc
 have HN2 := Lib.hid hn2
 have HPS := Lib.hid hp
 obtain ⟨lg, hlg⟩ : ∃ b, decide (20000 ≤ longLg 0 [M]) = b := ⟨_, rfl⟩
 have HL := Lib.hid (longB [M] _ w2 (longAt_one k2 M2.out) lg hlg)
 have HLG := Lib.hid hlg
 obtain ⟨m0, m1, mf⟩ := b2 (show BlkAt (w.alloc (.cells #[.slice a1 n1 c1, .slice a2 n2 c2] 32)) w.heap.size 32 #[.slice a1 n1 c1, .slice a2 n2 c2] from blkAt_new w _ _)
 clear h hm hmc hn1 hn2 hw1 hw2 hb1 hb2 e1 k1 k2 hp henv hlg
 go_enter Tryz.func4, Tryz.ntmps4
 go_wp2_with fail
 rw [← W2.out]
 refine HL.out.mono ?_
 rintro e w3 ⟨rfl, hb3⟩
 have B3 := Lib.hid (below_more B2.out hb3)
 have K3 := Lib.hid (BlkAt.keep K1.out hb3)
 have M3 := Lib.hid (M2.out.keep hb3)
 clear hb3 HL W2 K1 M2 B2
 cases lg with
 | true =>
   go_wp2_with fail
   refine (HAW.out _ B3.out).mono ?_
   rintro e w4 ⟨rfl, hb4⟩
   have B4 := Lib.hid (below_more B3.out hb4)
   clear hb4
   go_wp2_with fail
   go_ret
   exact ⟨rfl, B4.out⟩
 | false =>
   have hfew : FewM M := longLg_small [M] 0 (by have := of_decide_eq_false HLG.out; omega) M List.mem_cons_self
   have HFW := Lib.hid hfew
   clear hfew
   obtain ⟨ps, hps⟩ : ∃ n, p.size = n := ⟨_, rfl⟩
   by_cases h1000 : 1000 < ps
   · have g1 : (1000 : Int) < (ps : Int) := by omega
     go_wp2_with fail
     refine (HAW.out _ B3.out).mono ?_
     rintro e w4 ⟨rfl, hb4⟩
     have B4 := Lib.hid (below_more B3.out hb4)
     clear hb4
     go_wp2_with fail
     go_ret
     exact ⟨rfl, B4.out⟩
   · have g1 : ¬ (1000 : Int) < (ps : Int) := by omega
     go_wp2_with fail
     refine (HAW.out _ B3.out).mono ?_
     rintro e w4 ⟨rfl, hb4⟩
     have B4 := Lib.hid (below_more B3.out hb4)
     have K4 := Lib.hid (BlkAt.keep K3.out hb4)
     have M4 := Lib.hid (M3.out.keep hb4)
     obtain ⟨m0, m1, mf⟩ := b2 K4.out
     obtain ⟨F, hF⟩ : ∃ l, forV hitB p M.maps = l := ⟨_, rfl⟩
     obtain ⟨nF, hnF⟩ : ∃ n, F.length = n := ⟨_, rfl⟩
     have HFR := Lib.hid (For_at M p F hF nF hnF _ w4 M4.out HPS.out HFW.out)
     have HF := Lib.hid hF
     have HNF := Lib.hid hnF
     have hnf4 : nF ≤ 4000 := by
       rw [← hnF, ← hF]
       exact Nat.le_trans (forV_len _) HFW.out.2.1
     have hn24 : n2 ≤ 4000 := by rw [← HN2.out]; exact HFW.out.2.1
     clear hb4 K3 M3 B3 HAW hF hnF
     go_wp2_with fail
     refine HFR.out.mono ?_
     rintro e w5 ⟨hb5, la, lc, rfl, hl5⟩
     have B5 := Lib.hid (below_more B4.out hb5)
     have K5 := Lib.hid (BlkAt.keep K4.out hb5)
     have L5 := Lib.hid hl5
     obtain ⟨m0, m1, mf⟩ := b2 K5.out
     obtain ⟨la', lc', e1, -, hlc⟩ := hl5.at
     simp only [Value.slice.injEq, HNF.out, true_and] at e1
     obtain ⟨rfl, rfl⟩ := e1
     have HLC := Lib.hid hlc
     clear hb5 hl5 hlc HFR M4 B4 K4
     go_wp2_with fail
     obtain ⟨ml, hml⟩ : ∃ l, M.maps = l := ⟨_, rfl⟩
     rw [hml] at HMC HF HN2
     clear hml
     go_loopw [6, 7, 8] (fun av ov i wr => ∃ (k q : Nat) (o : Bool), k ≤ n2 ∧ i = .int .i64 k ∧ av = .int .i64 q ∧ ov = .bool o ∧ q ≤ nF ∧ Hid (F.drop q = if o = true then [] else forV hitB p (ml.drop k)) ∧ Hid (Below w5.heap.size w5 wr)) (fun _ _ i _ => n2 - (intOf i).toNat)
     case atStart => exact ⟨0, 0, false, by omega, rfl, rfl, rfl, by omega, by show List.drop 0 F = _; rw [List.drop_zero, if_neg (by decide), List.drop_zero, HF.out], Below.refl _ _⟩
     case round =>
       obtain ⟨k, q, o, hk, rfl, rfl, rfl, hq, HD, HB⟩ := hrel
       have l0 := cell_keep HB.out m0
       have l1 := cell_keep HB.out m1
       by_cases hkn : k < n2
       · obtain ⟨x, hx⟩ : ∃ s, ml[k]? = some s := ⟨_, List.getElem?_eq_getElem (by rw [HN2.out]; exact hkn)⟩
         obtain ⟨xb, xo, b1, d1, b2', d2, rfl, p0, p1, p2, p3, xs1, xs2, hpx⟩ := HMC.out k x hx
         have HBr := Lib.hid (below_more B5.out HB.out)
         have p0 := cell_keep HBr.out p0
         have p1 := cell_keep HBr.out p1
         have p2 := cell_keep HBr.out p2
         have p3 := cell_keep HBr.out p3
         have i0' : (0 : Int) ≤ (k : Int) := by omega
         have i1' : (k : Int) < (n2 : Int) := by omega
         have hst := forV_step (hit := hitB) (p := p) hx
         obtain ⟨n3, hn3⟩ : ∃ z, x.paths.length = z := ⟨_, rfl⟩
         obtain ⟨n4, hn4⟩ : ∃ z, x.repos.length = z := ⟨_, rfl⟩
         obtain ⟨bt, hbt⟩ : ∃ z, x.term = z := ⟨_, rfl⟩
         obtain ⟨th, hth⟩ : ∃ z, x.thr = z := ⟨_, rfl⟩
         have HPX := Lib.hid hpx
         rw [hn3, hn4, hbt, hth] at HPX
         rw [hn3] at p0 xs1
         rw [hn4] at p1
         rw [hbt] at p2
         rw [hth] at p3
         have HXT := Lib.hid hbt
         have HS1 := Lib.hid xs1
         have HST := Lib.hid hst
         obtain ⟨w6, hw6⟩ : ∃ y, y = wr.alloc (.cells #[.slice b1 n3 d1, .slice b2' n4 d2, .bool bt, .int .i64 th] 41) := ⟨_, rfl⟩
         have hb6 : Below wr.heap.size wr w6 := by rw [hw6]; exact bel_alloc (Below.refl _ _) _
         have X6 : Hid (BlkAt w6 wr.heap.size 41 #[.slice b1 n3 d1, .slice b2' n4 d2, .bool bt, .int .i64 th]) := by rw [hw6]; exact blkAt_new wr _ _
         have B56 := Lib.hid (below_more HB.out hb6)
         have HB6 := Lib.hid hb6
         have W6 := Lib.hid hw6
         have HGA := Lib.hid (gAny_any x.paths p (.slice b1 n3 d1) w6 (HS1.out.keep (below_more B5.out B56.out)) HPS.out)
         have HHM := Lib.hid (fun Y (hY : Below w6.heap.size w6 Y) => (Matches_any x p b1 b2' n3 d1 n4 d2 Y (HS1.out.keep (below_more (below_more B5.out B56.out) hY)) HPS.out))
         rw [hbt, hth] at HHM
         obtain ⟨x0, x1, x2, x3, xf⟩ := b4' X6.out
         rw [W6.out] at x0 x1 x2 x3 xf
         clear hx hpx hst hn3 hn4 hbt hth hb6 hw6 xs1 xs2
         cases o with
         | true =>
           have hdd := HD.out
           rw [if_pos rfl] at hdd
           have HD2 : Hid (F.drop q = if true = true then [] else forV hitB p (ml.drop (k + 1))) := by show _ = _; rw [if_pos rfl]; exact hdd
           clear hdd
           go_wp2_with fail
           exact ⟨⟨k + 1, q, true, by omega, by go_num, rfl, rfl, hq, HD2, (by first | exact B56 | (rw [← W6.out]; exact B56))⟩, by simp [intOf]; omega⟩
         | false =>
           have hdd := HD.out
           rw [if_neg (by decide), HST.out] at hdd
           obtain ⟨bb, hbb⟩ : ∃ b, anyH hitB x.paths p = b := ⟨_, rfl⟩
           rw [hbb] at HGA HHM hdd
           have HDD := Lib.hid hdd
           clear hdd hbb
           go_wp2_with fail
           rw [← W6.out] at x0 x1 x2 x3 xf ⊢
           refine HGA.out.mono ?_
           rintro e w7 ⟨rfl, hb7⟩
           have B57 := Lib.hid (below_more B56.out hb7)
           have B67 := Lib.hid hb7
           clear hb7 HGA
           cases bb with
           | false =>
             have HD2 : Hid (F.drop q = if false = true then [] else forV hitB p (ml.drop (k + 1))) := by
               show _ = _
               rw [if_neg (by decide), HDD.out, if_neg (by decide)]
             go_wp2_with fail
             exact ⟨⟨k + 1, q, false, by omega, by go_num, rfl, rfl, hq, HD2, B57⟩, by simp [intOf]; omega⟩
           | true =>
             have hdc := HDD.out
             rw [if_pos rfl] at hdc
             obtain ⟨hfq, hqF, hdr⟩ := drop_cons hdc
             rw [HNF.out] at hqF
             obtain ⟨fb, fo, f1, g1, f2, g2, rfl, r0, r1, r2, r3, -, -, hpf⟩ := HLC.out q x hfq
             have r0 := cell_keep B57.out r0
             have r1 := cell_keep B57.out r1
             have r2 := cell_keep B57.out r2
             have r3 := cell_keep B57.out r3
             obtain ⟨x0, x1, x2, x3, xf⟩ := b4' (BlkAt.keep X6.out B67.out)
             obtain ⟨n3', hn3'⟩ : ∃ z, x.paths.length = z := ⟨_, rfl⟩
             obtain ⟨n4', hn4'⟩ : ∃ z, x.repos.length = z := ⟨_, rfl⟩
             have HPF := Lib.hid hpf
             rw [hn3', hn4', HXT.out] at HPF
             rw [hn3'] at r0
             rw [hn4'] at r1
             rw [HXT.out] at r2
             obtain ⟨th', hth'⟩ : ∃ z, x.thr = z := ⟨_, rfl⟩
             rw [hth'] at r3 HPF
             have j0 : (0 : Int) ≤ (q : Int) := by omega
             have j1 : (q : Int) < (nF : Int) := by omega
             have j2 : decide ((nF : Int) ≤ (q : Int)) = false := decide_eq_false (by omega)
             have j2' : decide (nF ≤ q) = false := decide_eq_false (by omega)
             obtain ⟨xk, hxk⟩ : ∃ z, wr.heap.size = z := ⟨_, rfl⟩
             rw [hxk] at x0 x1 x2 x3 xf ⊢
             have HD2 : Hid (F.drop (q + 1) = if bt = true then [] else forV hitB p (ml.drop (k + 1))) := by show _ = _; rw [← HXT.out]; exact hdr
             have HSX : Hid (∀ Y, Below w7.heap.size w7 Y → Calls Tryz.prog 17 #[.agg #[.slice f1 n3' g1, .slice f2 n4' g2, .bool bt, .int .i64 th'], .agg #[.slice b1 n3 d1, .slice b2' n4 d2, .bool bt, .int .i64 th]] Y fun e w' => e = .returned (.bool true) ∧ Below Y.heap.size Y w') := fun Y hY => by
               have h := same25x_any x x _ _ Y (MapgAt.keep hY (MapgAt.keep B57.out HPF.out)) (MapgAt.keep hY (MapgAt.keep (below_more B5.out B57.out) HPX.out))
               rw [decide_eq_true rfl] at h
               exact h
             have HMX : Hid (∀ Y, Below w7.heap.size w7 Y → Calls Tryz.prog 18 #[.agg #[.slice b1 n3 d1, .slice b2' n4 d2, .bool bt, .int .i64 th], .string p] Y fun e w' => e = .returned (.bool true) ∧ Below Y.heap.size Y w') := fun Y hY => HHM.out Y (below_more B67.out hY)
             clear hdc hfq hdr hpf hn3' hn4' hth' HDD HST HHM HD HPF HPX hxk
             go_wp2_with fail
             go_region_held3 (fun w' => Below w7.heap.size w7 w' ∧ w'.cell? ⟨xk, 0, none⟩ = some (.slice b1 n3 d1) ∧ w'.cell? ⟨xk, 1, none⟩ = some (.slice b2' n4 d2) ∧ w'.cell? ⟨xk, 2, none⟩ = some (.bool bt) ∧ w'.cell? ⟨xk, 3, none⟩ = some (.int .i64 th) ∧ w'.cell? ⟨fb, fo + q * 4, none⟩ = some (.slice f1 n3' g1) ∧ w'.cell? ⟨fb, fo + q * 4 + 1, none⟩ = some (.slice f2 n4' g2) ∧ w'.cell? ⟨fb, fo + q * 4 + 2, none⟩ = some (.bool bt) ∧ w'.cell? ⟨fb, fo + q * 4 + 3, none⟩ = some (.int .i64 th'))
               ((refine (fun h => ⟨h, cell_keep h x0, cell_keep h x1, cell_keep h x2, cell_keep h x3, cell_keep h r0, cell_keep h r1, cell_keep h r2, cell_keep h r3⟩ : Below w7.heap.size w7 _ → _) ?_; go_split_ands; (repeat (first | assumption | exact Below.refl _ _ | refine bel_drew ?_ | refine below_more ?_ (by assumption)))))
               (first
                 | (go_at_call 17; refine (HSX.out _ (by (repeat (first | refine bel_drew ?_ | exact Below.refl _ _ | assumption | refine below_more ?_ (by assumption))))).mono ?_; rintro e wP ⟨rfl, hbP⟩; have hAP : Below w7.heap.size w7 wP := below_more (by (repeat (first | refine bel_drew ?_ | exact Below.refl _ _ | assumption | refine below_more ?_ (by assumption)))) hbP)
                 | (go_at_call 18; refine (HMX.out _ (by (repeat (first | refine bel_drew ?_ | exact Below.refl _ _ | assumption | refine below_more ?_ (by assumption))))).mono ?_; rintro e wS ⟨rfl, hbS⟩; have hAS : Below w7.heap.size w7 wS := below_more (by (repeat (first | refine bel_drew ?_ | exact Below.refl _ _ | assumption | refine below_more ?_ (by assumption)))) hbS))
             go_wp2_with fail
             refine ⟨⟨k + 1, q + 1, bt, by omega, by go_num, by go_num, rfl, by omega, HD2, below_more B57.out (by (repeat (first | refine bel_drew ?_ | exact Below.refl _ _ | assumption | refine below_more ?_ (by assumption))))⟩, by simp [intOf]; omega⟩
       · obtain rfl : k = n2 := by omega
         have i1' : ¬ (k : Int) < (k : Int) := by omega
         have hdd := HD.out
         rw [List.drop_of_length_le (l := ml) (by rw [HN2.out]; exact Nat.le_refl _), forV, ite_self] at hdd
         have hqe : q = nF := by
           have := congrArg List.length hdd
           rw [List.length_drop, HNF.out] at this
           simp at this
           omega
         subst hqe
         have hbe : ((q : Int) == (q : Int)) = true := by simp
         have HBr := Lib.hid (below_more B5.out HB.out)
         clear hdd
         go_wp2_with fail
         go_ret
         exact ⟨rfl, HBr.out⟩
end Go.Proofs.YtopepakencpegaaGreatDoor
