/-
 The walk of ChartFinds.
-/
import Derived.Test.YtjnakpbobeeclaaGreatDoorChartLm
import Derived.Test.YtjnakpbobeeclaaGreatDoorGlobR3
import Derived.Deep.RegionHeldLaw
import Derived.Deep.DeepCutAuto
namespace Go.Proofs.YtjnakpbobeeclaaGreatDoor
set_option maxRecDepth 100000
open Go.RowKit
set_option maxHeartbeats 64000000 in
theorem chartFinds_walk (M : MapP) (p : ByteArray) (X : MapgP) (v u : Value) (w : World) (h : MapAt w v M) (hp : p.size ≤ maxLen) (hx : MapgAt w u X) (henv : NumEnv w) :
   Calls Tryz.prog 4 #[v, .string p, u] w fun e w' => e = .returned (.bool true) ∧ Below w.heap.size w w' := by
 have HMH := Lib.hid h
 have HAW := Lib.hid (fun W (hb : Below w.heap.size w W) => awake25_any W (henv.below hb))
 obtain ⟨a1, c1, a2, c2, rfl, -, hm⟩ := h.parts
 obtain ⟨ma', mc', e1, -, hmc⟩ := hm.at
 simp only [Value.slice.injEq, true_and] at e1
 obtain ⟨rfl, rfl⟩ := e1
 have HXH := hx
 obtain ⟨v1, v2, rfl, xs1, xs2, -, -, -⟩ := hx
 obtain ⟨u1, d1, rfl, -, -, -⟩ := xs1.parts
 obtain ⟨u2, d2, rfl, -, -, -⟩ := xs2.parts
 obtain ⟨n1, hn1⟩ : ∃ n, M.repos.length = n := ⟨_, rfl⟩
 obtain ⟨n2, hn2⟩ : ∃ n, M.maps.length = n := ⟨_, rfl⟩
 obtain ⟨n3, hn3⟩ : ∃ n, X.paths.length = n := ⟨_, rfl⟩
 obtain ⟨n4, hn4⟩ : ∃ n, X.repos.length = n := ⟨_, rfl⟩
 obtain ⟨bt, hbt⟩ : ∃ n, X.term = n := ⟨_, rfl⟩
 obtain ⟨th, hth⟩ : ∃ n, X.thr = n := ⟨_, rfl⟩
 rw [hn1, hn2] at HMH ⊢
 rw [hn3, hn4, hbt, hth]
 rw [hn3] at xs1
 obtain ⟨w1, hw1⟩ : ∃ y, y = w.alloc (.cells #[.slice a1 n1 c1, .slice a2 n2 c2] 25) := ⟨_, rfl⟩
 obtain ⟨w2, hw2⟩ : ∃ y, y = w1.alloc (.cells #[.slice u1 n3 d1, .slice u2 n4 d2, .bool bt, .int .i64 th] 39) := ⟨_, rfl⟩
 obtain ⟨w3, hw3⟩ : ∃ y, y = w2.alloc (.cells #[.slice u1 n3 d1, .slice u2 n4 d2, .bool bt, .int .i64 th] 39) := ⟨_, rfl⟩
 obtain ⟨w4, hw4⟩ : ∃ y, y = w3.alloc (.cells #[.slice a1 n1 c1, .slice a2 n2 c2, .slice none 0 0, .slice (some ⟨w.heap.size + 1 + 1, 0, none⟩) 1 1] 25) := ⟨_, rfl⟩
 have hb1 : Below w.heap.size w w1 := by rw [hw1]; exact bel_alloc (Below.refl _ _) _
 have hb2 : Below w1.heap.size w1 w2 := by rw [hw2]; exact bel_alloc (Below.refl _ _) _
 have hb3 : Below w2.heap.size w2 w3 := by rw [hw3]; exact bel_alloc (Below.refl _ _) _
 have hb4 : Below w3.heap.size w3 w4 := by rw [hw4]; exact bel_alloc (Below.refl _ _) _
 have e1 : w1.heap.size = w.heap.size + 1 := by rw [hw1, size_al]
 have e2 : w2.heap.size = w.heap.size + 1 + 1 := by rw [hw2, size_al, e1]
 have e3 : w3.heap.size = w.heap.size + 1 + 1 + 1 := by rw [hw3, size_al, e2]
 have k1 : BlkAt w1 w.heap.size 25 #[.slice a1 n1 c1, .slice a2 n2 c2] := by rw [hw1]; exact blkAt_new w _ _
 have k2 : BlkAt w2 (w.heap.size + 1) 39 #[.slice u1 n3 d1, .slice u2 n4 d2, .bool bt, .int .i64 th] := by rw [hw2, ← e1]; exact blkAt_new w1 _ _
 have k3 : BlkAt w3 (w.heap.size + 1 + 1) 39 #[.slice u1 n3 d1, .slice u2 n4 d2, .bool bt, .int .i64 th] := by rw [hw3, ← e2]; exact blkAt_new w2 _ _
 have k4 : BlkAt w4 (w.heap.size + 1 + 1 + 1) 25 #[.slice a1 n1 c1, .slice a2 n2 c2, .slice none 0 0, .slice (some ⟨w.heap.size + 1 + 1, 0, none⟩) 1 1] := by rw [hw4, ← e3]; exact blkAt_new w3 _ _
 have b24 := below_more hb3 hb4
 have b14 := below_more hb2 b24
 have B4 := Lib.hid (below_more hb1 b14)
 have K4 := Lib.hid (BlkAt.keep k1 b14)
 have X4 := Lib.hid (BlkAt.keep k2 b24)
 have M4 := Lib.hid (HMH.out.keep (below_more hb1 b14))
 have W4 : Hid (w4 = (((w.alloc (.cells #[.slice a1 n1 c1, .slice a2 n2 c2] 25)).alloc (.cells #[.slice u1 n3 d1, .slice u2 n4 d2, .bool bt, .int .i64 th] 39)).alloc (.cells #[.slice u1 n3 d1, .slice u2 n4 d2, .bool bt, .int .i64 th] 39)).alloc (.cells #[.slice a1 n1 c1, .slice a2 n2 c2, .slice none 0 0, .slice (some ⟨w.heap.size + 1 + 1, 0, none⟩) 1 1] 25)) := by show _ = _; rw [hw4, hw3, hw2, hw1]
 obtain ⟨lg, hlg⟩ : ∃ b, decide (20000 ≤ longLg 0 [M, ⟨[], [X]⟩]) = b := ⟨_, rfl⟩
 rw [hn3, hn4, hbt, hth] at HXH
 have HLo : LongAt w4 (.slice (some ⟨w.heap.size + 1 + 1 + 1, 0, none⟩) 2 2) [M, ⟨[], [X]⟩] := by
   refine longAt_mapg (X := X) (u1 := u1) (u2 := u2) (l1 := n3) (d1 := d1) (l2 := n4) (d2 := d2) k4 ?_ M4.out ?_
   · rw [hbt, hth]; exact BlkAt.keep k3 hb4
   · rw [hbt, hth]; exact HXH.keep B4.out
 have HL := Lib.hid (longB [M, ⟨[], [X]⟩] _ w4 HLo lg hlg)
 have HXM := Lib.hid HXH
 have hcap : n2 ≤ c2 := by have := hm.2.1 _ _ _ rfl; omega
 have HMM := Lib.hid hm
 have HMC := Lib.hid hmc
 have HN2 := Lib.hid hn2
 have HTR := Lib.hid hbt
 have HTH := Lib.hid hth
 have HPS := Lib.hid hp
 have HLG := Lib.hid hlg
 have HS1 := Lib.hid xs1
 obtain ⟨m0, m1, mf⟩ := b2 (show BlkAt (((w.alloc (.cells #[.slice a1 n1 c1, .slice a2 n2 c2] 25)).alloc (.cells #[.slice u1 n3 d1, .slice u2 n4 d2, .bool bt, .int .i64 th] 39))) w.heap.size 25 #[.slice a1 n1 c1, .slice a2 n2 c2] from (blkAt_new w _ _).alloc _)
 obtain ⟨x0, x1, x2, x3, xf⟩ := b4' (show BlkAt (((w.alloc (.cells #[.slice a1 n1 c1, .slice a2 n2 c2] 25)).alloc (.cells #[.slice u1 n3 d1, .slice u2 n4 d2, .bool bt, .int .i64 th] 39))) (w.heap.size + 1) 39 #[.slice u1 n3 d1, .slice u2 n4 d2, .bool bt, .int .i64 th] from by
   have := blkAt_new (w.alloc (.cells #[.slice a1 n1 c1, .slice a2 n2 c2] 25)) #[.slice u1 n3 d1, .slice u2 n4 d2, .bool bt, .int .i64 th] 39
   rwa [size_al] at this)
 clear h hm hmc hn1 hn2 hn3 hn4 hbt hth hp henv hlg hw1 hw2 hw3 hw4 hb1 hb2 hb3 hb4 b24 b14 e1 e2 e3 k1 k2 k3 k4 HXH xs1 xs2 HLo
 go_enter Tryz.func4, Tryz.ntmps4
 go_wp2_with fail
 rw [← W4.out]
 refine HL.out.mono ?_
 rintro e w5 ⟨rfl, hb5⟩
 have B5 := Lib.hid (below_more B4.out hb5)
 have K5 := Lib.hid (BlkAt.keep K4.out hb5)
 have X5 := Lib.hid (BlkAt.keep X4.out hb5)
 have M5 := Lib.hid (M4.out.keep hb5)
 clear hb5 HL W4 K4 M4 B4 X4 m0 m1 mf x0 x1 x2 x3 xf
 obtain ⟨m0, m1, mf⟩ := b2 K5.out
 obtain ⟨x0, x1, x2, x3, xf⟩ := b4' X5.out
 cases lg with
 | true =>
   go_wp2_with fail
   refine (HAW.out _ B5.out).mono ?_
   rintro e w6 ⟨rfl, hb6⟩
   have B6 := Lib.hid (below_more B5.out hb6)
   clear hb6
   go_wp2_with fail
   go_ret
   exact ⟨rfl, B6.out⟩
 | false =>
   have hfew : ∀ K ∈ [M, (⟨[], [X]⟩ : MapP)], FewM K := longLg_small _ 0 (by have := of_decide_eq_false HLG.out; omega)
   have HFW := Lib.hid (hfew M List.mem_cons_self)
   have HFX := Lib.hid ((hfew ⟨[], [X]⟩ (by simp)).2.2.2 X (by simp))
   have hn24 : n2 ≤ 4000 := by rw [← HN2.out]; exact HFW.out.2.1
   clear hfew HLG
   obtain ⟨ps, hps⟩ : ∃ n, p.size = n := ⟨_, rfl⟩
   by_cases h1000 : 1000 < ps
   · have g1 : (1000 : Int) < (ps : Int) := by omega
     go_wp2_with fail
     refine (HAW.out _ B5.out).mono ?_
     rintro e w6 ⟨rfl, hb6⟩
     have B6 := Lib.hid (below_more B5.out hb6)
     clear hb6
     go_wp2_with fail
     go_ret
     exact ⟨rfl, B6.out⟩
   · have g1 : ¬ (1000 : Int) < (ps : Int) := by omega
     obtain ⟨F, hF⟩ : ∃ l, forV hitB p M.maps = l := ⟨_, rfl⟩
     obtain ⟨nF, hnF⟩ : ∃ n, F.length = n := ⟨_, rfl⟩
     obtain ⟨mt, hmt⟩ : ∃ b, anyH hitB X.paths p = b := ⟨_, rfl⟩
     have HMA : Hid (∀ Y, Below w5.heap.size w5 Y → _) := fun Y hY => Matches_any X p u1 u2 n3 d1 n4 d2 Y (HS1.out.keep (below_more B5.out hY)) HPS.out
     have HMR : Hid (∀ Y, Below w5.heap.size w5 Y → _) := fun Y hY => matches25_any X p u1 u2 n3 d1 n4 d2 Y (HS1.out.keep (below_more B5.out hY))
     rw [hmt, HTR.out, HTH.out] at HMA HMR
     have HFA := Lib.hid (fun Y (hY : Below w5.heap.size w5 Y) => For_at M p F hF nF hnF _ Y (M5.out.keep hY) HPS.out HFW.out)
     have HFR := Lib.hid (fun Y (hY : Below w5.heap.size w5 Y) => for25_any M p F hF nF hnF _ Y (M5.out.keep hY) HFW.out.2.1)
     have HAX := Lib.hid (fun Y (hY : Below w5.heap.size w5 Y) => HAW.out Y (below_more B5.out hY))
     have HSM : Hid (∀ (Z1 Z2 Y : World) (b d : Option Addr) (c e : Nat), MapsAt Z1 (.slice b nF c) F → Below Z1.heap.size Z1 Y → MapsAt Z2 (.slice d nF e) F → Below Z2.heap.size Z2 Y → Calls Tryz.prog 18 #[.slice b nF c, .slice d nF e] Y fun e w' => e = .returned (.bool true) ∧ Below Y.heap.size Y w') := fun Z1 Z2 Y b d c e h1 hb1 h2 hb2 => by
       have h := same25Xs_any F F _ _ Y (h1.keep hb1) (h2.keep hb2)
       rw [decide_eq_true rfl] at h
       exact h
     clear hF hnF hmt HXM HMM HMC HN2 HFW HFX HAW hcap
     cases mt with
     | true =>
       go_wp2_with fail
       go_region_held3 (fun w' => Below w5.heap.size w5 w' ∧ w'.cell? ⟨w.heap.size, 0, none⟩ = some (.slice a1 n1 c1) ∧ w'.cell? ⟨w.heap.size, 1, none⟩ = some (.slice a2 n2 c2) ∧ w'.cell? ⟨w.heap.size + 1, 0, none⟩ = some (.slice u1 n3 d1) ∧ w'.cell? ⟨w.heap.size + 1, 1, none⟩ = some (.slice u2 n4 d2) ∧ w'.cell? ⟨w.heap.size + 1, 2, none⟩ = some (.bool bt) ∧ w'.cell? ⟨w.heap.size + 1, 3, none⟩ = some (.int .i64 th))
         ((refine (fun h => ⟨h, cell_keep h m0, cell_keep h m1, cell_keep h x0, cell_keep h x1, cell_keep h x2, cell_keep h x3⟩ : Below w5.heap.size w5 _ → _) ?_; go_split_ands; (repeat (first | assumption | exact Below.refl _ _ | refine bel_drew ?_ | refine below_more ?_ (by assumption)))))
         (first
           | (go_at_call 16; refine (HMA.out _ (by (repeat (first | refine bel_drew ?_ | exact Below.refl _ _ | assumption | refine below_more ?_ (by assumption))))).mono ?_; rintro e wP ⟨rfl, hbP⟩; have hAP : Below w5.heap.size w5 wP := below_more (by (repeat (first | refine bel_drew ?_ | exact Below.refl _ _ | assumption | refine below_more ?_ (by assumption)))) hbP)
           | (go_at_call 17; refine (HMR.out _ (by (repeat (first | refine bel_drew ?_ | exact Below.refl _ _ | assumption | refine below_more ?_ (by assumption))))).mono ?_; rintro e wQ ⟨rfl, hbQ⟩; have hAQ : Below w5.heap.size w5 wQ := below_more (by (repeat (first | refine bel_drew ?_ | exact Below.refl _ _ | assumption | refine below_more ?_ (by assumption)))) hbQ)
           | (go_at_call 19; refine (HFA.out _ (by (repeat (first | refine bel_drew ?_ | exact Below.refl _ _ | assumption | refine below_more ?_ (by assumption))))).mono ?_; rintro e wR ⟨hbR, xa1, xc1, rfl, hlR⟩; have hAR : Below w5.heap.size w5 wR := below_more (by (repeat (first | refine bel_drew ?_ | exact Below.refl _ _ | assumption | refine below_more ?_ (by assumption)))) hbR)
           | (go_at_call 20; refine (HFR.out _ (by (repeat (first | refine bel_drew ?_ | exact Below.refl _ _ | assumption | refine below_more ?_ (by assumption))))).mono ?_; rintro e wS ⟨hbS, xa2, xc2, rfl, hlS⟩; have hAS : Below w5.heap.size w5 wS := below_more (by (repeat (first | refine bel_drew ?_ | exact Below.refl _ _ | assumption | refine below_more ?_ (by assumption)))) hbS)
           | (go_at_call 18; refine (HSM.out _ _ _ _ _ _ _ (by assumption) (by (repeat (first | refine bel_drew ?_ | exact Below.refl _ _ | assumption | refine below_more ?_ (by assumption)))) (by assumption) (by (repeat (first | refine bel_drew ?_ | exact Below.refl _ _ | assumption | refine below_more ?_ (by assumption))))).mono ?_; rintro e wT ⟨rfl, hbT⟩; have hAT : Below w5.heap.size w5 wT := below_more (by (repeat (first | refine bel_drew ?_ | exact Below.refl _ _ | assumption | refine below_more ?_ (by assumption)))) hbT)
           | (go_at_call 8; refine (HAX.out _ (by (repeat (first | refine bel_drew ?_ | exact Below.refl _ _ | assumption | refine below_more ?_ (by assumption))))).mono ?_; rintro e wU ⟨rfl, hbU⟩; have hAU : Below w5.heap.size w5 wU := below_more (by (repeat (first | refine bel_drew ?_ | exact Below.refl _ _ | assumption | refine below_more ?_ (by assumption)))) hbU))
       go_wp2_with fail
       go_ret
       exact ⟨rfl, below_more B5.out (by (repeat (first | refine bel_drew ?_ | exact Below.refl _ _ | assumption | refine below_more ?_ (by assumption))))⟩
     | false =>
       go_wp2_with fail
       go_region_held3 (fun w' => Below w5.heap.size w5 w' ∧ w'.cell? ⟨w.heap.size, 0, none⟩ = some (.slice a1 n1 c1) ∧ w'.cell? ⟨w.heap.size, 1, none⟩ = some (.slice a2 n2 c2) ∧ w'.cell? ⟨w.heap.size + 1, 0, none⟩ = some (.slice u1 n3 d1) ∧ w'.cell? ⟨w.heap.size + 1, 1, none⟩ = some (.slice u2 n4 d2) ∧ w'.cell? ⟨w.heap.size + 1, 2, none⟩ = some (.bool bt) ∧ w'.cell? ⟨w.heap.size + 1, 3, none⟩ = some (.int .i64 th))
         ((refine (fun h => ⟨h, cell_keep h m0, cell_keep h m1, cell_keep h x0, cell_keep h x1, cell_keep h x2, cell_keep h x3⟩ : Below w5.heap.size w5 _ → _) ?_; go_split_ands; (repeat (first | assumption | exact Below.refl _ _ | refine bel_drew ?_ | refine below_more ?_ (by assumption)))))
         (first
           | (go_at_call 16; refine (HMA.out _ (by (repeat (first | refine bel_drew ?_ | exact Below.refl _ _ | assumption | refine below_more ?_ (by assumption))))).mono ?_; rintro e wP ⟨rfl, hbP⟩; have hAP : Below w5.heap.size w5 wP := below_more (by (repeat (first | refine bel_drew ?_ | exact Below.refl _ _ | assumption | refine below_more ?_ (by assumption)))) hbP)
           | (go_at_call 17; refine (HMR.out _ (by (repeat (first | refine bel_drew ?_ | exact Below.refl _ _ | assumption | refine below_more ?_ (by assumption))))).mono ?_; rintro e wQ ⟨rfl, hbQ⟩; have hAQ : Below w5.heap.size w5 wQ := below_more (by (repeat (first | refine bel_drew ?_ | exact Below.refl _ _ | assumption | refine below_more ?_ (by assumption)))) hbQ)
           | (go_at_call 19; refine (HFA.out _ (by (repeat (first | refine bel_drew ?_ | exact Below.refl _ _ | assumption | refine below_more ?_ (by assumption))))).mono ?_; rintro e wR ⟨hbR, xa1, xc1, rfl, hlR⟩; have hAR : Below w5.heap.size w5 wR := below_more (by (repeat (first | refine bel_drew ?_ | exact Below.refl _ _ | assumption | refine below_more ?_ (by assumption)))) hbR)
           | (go_at_call 20; refine (HFR.out _ (by (repeat (first | refine bel_drew ?_ | exact Below.refl _ _ | assumption | refine below_more ?_ (by assumption))))).mono ?_; rintro e wS ⟨hbS, xa2, xc2, rfl, hlS⟩; have hAS : Below w5.heap.size w5 wS := below_more (by (repeat (first | refine bel_drew ?_ | exact Below.refl _ _ | assumption | refine below_more ?_ (by assumption)))) hbS)
           | (go_at_call 18; refine (HSM.out _ _ _ _ _ _ _ (by assumption) (by (repeat (first | refine bel_drew ?_ | exact Below.refl _ _ | assumption | refine below_more ?_ (by assumption)))) (by assumption) (by (repeat (first | refine bel_drew ?_ | exact Below.refl _ _ | assumption | refine below_more ?_ (by assumption))))).mono ?_; rintro e wT ⟨rfl, hbT⟩; have hAT : Below w5.heap.size w5 wT := below_more (by (repeat (first | refine bel_drew ?_ | exact Below.refl _ _ | assumption | refine below_more ?_ (by assumption)))) hbT)
           | (go_at_call 8; refine (HAX.out _ (by (repeat (first | refine bel_drew ?_ | exact Below.refl _ _ | assumption | refine below_more ?_ (by assumption))))).mono ?_; rintro e wU ⟨rfl, hbU⟩; have hAU : Below w5.heap.size w5 wU := below_more (by (repeat (first | refine bel_drew ?_ | exact Below.refl _ _ | assumption | refine below_more ?_ (by assumption)))) hbU))
       go_wp2_with fail
       go_ret
       exact ⟨rfl, below_more B5.out (by (repeat (first | refine bel_drew ?_ | exact Below.refl _ _ | assumption | refine below_more ?_ (by assumption))))⟩
end Go.Proofs.YtjnakpbobeeclaaGreatDoor
