/-
  The walk of ChartBehind.
-/
import Derived.Test.YtjnakpbobeeclaaGreatDoorChartBs
import Derived.Deep.RegionHeldLaw
import Derived.Test.YtjnakpbobeeclaaGreatDoorAppAny
import Derived.Deep.DeepCutAuto
namespace Go.Proofs.YtjnakpbobeeclaaGreatDoor
open Go.RowKit

/-- The place that a number says among so many. -/
theorem place_of (a : Int) (n : Nat) (hn : n ≤ 4000) : ∃ k : Nat, k ≤ n ∧ (IntKind.u64.wrap a).tmod (((n : Int) + 1)) = (k : Int) := by
  have h0 : 0 ≤ IntKind.u64.wrap a := by simp [IntKind.wrap, IntKind.bits, IntKind.signed]; omega
  have h1 : (IntKind.u64.wrap a).tmod ((n : Int) + 1) = (IntKind.u64.wrap a) % ((n : Int) + 1) := Int.tmod_eq_emod_of_nonneg h0
  have h2 := Int.emod_nonneg (IntKind.u64.wrap a) (show ((n : Int) + 1) ≠ 0 by omega)
  have h3 := Int.emod_lt_of_pos (IntKind.u64.wrap a) (show (0 : Int) < (n : Int) + 1 by omega)
  exact ⟨((IntKind.u64.wrap a) % ((n : Int) + 1)).toNat, by omega, by rw [h1]; omega⟩
set_option maxRecDepth 100000 in
set_option maxHeartbeats 64000000 in
theorem chartBehind_walk (M : MapP) (X : MapgP) (p : ByteArray) (at_ : Int) (v u : Value) (w : World) (h : MapAt w v M) (hx : MapgAt w u X) (hp : p.size ≤ maxLen) (_ha : (Lit.int IntKind.i64 at_).wf = true) (henv : NumEnv w) :
    Calls Tryz.prog 6 #[v, u, .string p, .int .i64 at_] w fun e w' => e = .returned (.bool true) ∧ Below w.heap.size w w' := by
  have HMH := Lib.hid h
  have HAW := Lib.hid (fun W (hb : Below w.heap.size w W) => awake25_any W (henv.below hb))
  obtain ⟨a1, c1, a2, c2, rfl, -, hm⟩ := h.parts
  obtain ⟨ma', mc', e1, -, hmc⟩ := hm.at
  simp only [Value.slice.injEq, true_and] at e1
  obtain ⟨rfl, rfl⟩ := e1
  have HXH := hx
  obtain ⟨v1, v2, rfl, xs1, xs2, -, -, -⟩ := hx
  obtain ⟨u1, d1, rfl, -, -, -⟩ := xs1.parts
  obtain ⟨u2, d2, rfl, -, -, -⟩ := xs2.parts
  obtain ⟨n1, hn1⟩ : ∃ n, M.repos.length = n := ⟨_, rfl⟩
  obtain ⟨n2, hn2⟩ : ∃ n, M.maps.length = n := ⟨_, rfl⟩
  obtain ⟨n3, hn3⟩ : ∃ n, X.paths.length = n := ⟨_, rfl⟩
  obtain ⟨n4, hn4⟩ : ∃ n, X.repos.length = n := ⟨_, rfl⟩
  obtain ⟨bt, hbt⟩ : ∃ n, X.term = n := ⟨_, rfl⟩
  obtain ⟨th, hth⟩ : ∃ n, X.thr = n := ⟨_, rfl⟩
  rw [hn1, hn2] at HMH ⊢
  rw [hn3, hn4, hbt, hth]
  rw [hn3] at xs1
  obtain ⟨w1, hw1⟩ : ∃ y, y = w.alloc (.cells #[.slice a1 n1 c1, .slice a2 n2 c2] 25) := ⟨_, rfl⟩
  obtain ⟨w2, hw2⟩ : ∃ y, y = w1.alloc (.cells #[.slice u1 n3 d1, .slice u2 n4 d2, .bool bt, .int .i64 th] 39) := ⟨_, rfl⟩
  obtain ⟨w3, hw3⟩ : ∃ y, y = w2.alloc (.cells #[.slice u1 n3 d1, .slice u2 n4 d2, .bool bt, .int .i64 th] 39) := ⟨_, rfl⟩
  obtain ⟨w4, hw4⟩ : ∃ y, y = w3.alloc (.cells #[.slice a1 n1 c1, .slice a2 n2 c2, .slice none 0 0, .slice (some ⟨w.heap.size + 1 + 1, 0, none⟩) 1 1] 25) := ⟨_, rfl⟩
  have hb1 : Below w.heap.size w w1 := by rw [hw1]; exact bel_alloc (Below.refl _ _) _
  have hb2 : Below w1.heap.size w1 w2 := by rw [hw2]; exact bel_alloc (Below.refl _ _) _
  have hb3 : Below w2.heap.size w2 w3 := by rw [hw3]; exact bel_alloc (Below.refl _ _) _
  have hb4 : Below w3.heap.size w3 w4 := by rw [hw4]; exact bel_alloc (Below.refl _ _) _
  have e1 : w1.heap.size = w.heap.size + 1 := by rw [hw1, size_al]
  have e2 : w2.heap.size = w.heap.size + 1 + 1 := by rw [hw2, size_al, e1]
  have e3 : w3.heap.size = w.heap.size + 1 + 1 + 1 := by rw [hw3, size_al, e2]
  have k1 : BlkAt w1 w.heap.size 25 #[.slice a1 n1 c1, .slice a2 n2 c2] := by rw [hw1]; exact blkAt_new w _ _
  have k2 : BlkAt w2 (w.heap.size + 1) 39 #[.slice u1 n3 d1, .slice u2 n4 d2, .bool bt, .int .i64 th] := by rw [hw2, ← e1]; exact blkAt_new w1 _ _
  have k3 : BlkAt w3 (w.heap.size + 1 + 1) 39 #[.slice u1 n3 d1, .slice u2 n4 d2, .bool bt, .int .i64 th] := by rw [hw3, ← e2]; exact blkAt_new w2 _ _
  have k4 : BlkAt w4 (w.heap.size + 1 + 1 + 1) 25 #[.slice a1 n1 c1, .slice a2 n2 c2, .slice none 0 0, .slice (some ⟨w.heap.size + 1 + 1, 0, none⟩) 1 1] := by rw [hw4, ← e3]; exact blkAt_new w3 _ _
  have b24 := below_more hb3 hb4
  have b14 := below_more hb2 b24
  have B4 := Lib.hid (below_more hb1 b14)
  have K4 := Lib.hid (BlkAt.keep k1 b14)
  have X4 := Lib.hid (BlkAt.keep k2 b24)
  have M4 := Lib.hid (HMH.out.keep (below_more hb1 b14))
  have W4 : Hid (w4 = (((w.alloc (.cells #[.slice a1 n1 c1, .slice a2 n2 c2] 25)).alloc (.cells #[.slice u1 n3 d1, .slice u2 n4 d2, .bool bt, .int .i64 th] 39)).alloc (.cells #[.slice u1 n3 d1, .slice u2 n4 d2, .bool bt, .int .i64 th] 39)).alloc (.cells #[.slice a1 n1 c1, .slice a2 n2 c2, .slice none 0 0, .slice (some ⟨w.heap.size + 1 + 1, 0, none⟩) 1 1] 25)) := by show _ = _; rw [hw4, hw3, hw2, hw1]
  obtain ⟨lg, hlg⟩ : ∃ b, decide (20000 ≤ longLg 0 [M, ⟨[], [X]⟩]) = b := ⟨_, rfl⟩
  rw [hn3, hn4, hbt, hth] at HXH
  have HLo : LongAt w4 (.slice (some ⟨w.heap.size + 1 + 1 + 1, 0, none⟩) 2 2) [M, ⟨[], [X]⟩] := by
    refine longAt_mapg (X := X) (u1 := u1) (u2 := u2) (l1 := n3) (d1 := d1) (l2 := n4) (d2 := d2) k4 ?_ M4.out ?_
    · rw [hbt, hth]; exact BlkAt.keep k3 hb4
    · rw [hbt, hth]; exact HXH.keep B4.out
  have HL := Lib.hid (longB [M, ⟨[], [X]⟩] _ w4 HLo lg hlg)
  have HXM := Lib.hid HXH
  have hcap : n2 ≤ c2 := by have := hm.2.1 _ _ _ rfl; omega
  have HMM := Lib.hid hm
  have HMC := Lib.hid hmc
  have HN2 := Lib.hid hn2
  have HBT := Lib.hid hbt
  have HTH := Lib.hid hth
  have HN3 := Lib.hid hn3
  have HN4 := Lib.hid hn4
  have HPS := Lib.hid hp
  have HLG := Lib.hid hlg
  have HS1 := Lib.hid xs1
  obtain ⟨m0, m1, mf⟩ := b2 (show BlkAt (((w.alloc (.cells #[.slice a1 n1 c1, .slice a2 n2 c2] 25)).alloc (.cells #[.slice u1 n3 d1, .slice u2 n4 d2, .bool bt, .int .i64 th] 39))) w.heap.size 25 #[.slice a1 n1 c1, .slice a2 n2 c2] from (blkAt_new w _ _).alloc _)
  obtain ⟨x0, x1, x2, x3, xf⟩ := b4' (show BlkAt (((w.alloc (.cells #[.slice a1 n1 c1, .slice a2 n2 c2] 25)).alloc (.cells #[.slice u1 n3 d1, .slice u2 n4 d2, .bool bt, .int .i64 th] 39))) (w.heap.size + 1) 39 #[.slice u1 n3 d1, .slice u2 n4 d2, .bool bt, .int .i64 th] from by
    have := blkAt_new (w.alloc (.cells #[.slice a1 n1 c1, .slice a2 n2 c2] 25)) #[.slice u1 n3 d1, .slice u2 n4 d2, .bool bt, .int .i64 th] 39
    rwa [size_al] at this)
  clear h hm hmc hn1 hn2 hn3 hn4 hbt hth hp _ha henv hlg hw1 hw2 hw3 hw4 hb1 hb2 hb3 hb4 b24 b14 e1 e2 e3 k1 k2 k3 k4 HXH xs1 xs2 HLo
  go_enter Tryz.func6, Tryz.ntmps6
  go_wp2_with fail
  rw [← W4.out]
  refine HL.out.mono ?_
  rintro e w5 ⟨rfl, hb5⟩
  have B5 := Lib.hid (below_more B4.out hb5)
  have K5 := Lib.hid (BlkAt.keep K4.out hb5)
  have X5 := Lib.hid (BlkAt.keep X4.out hb5)
  have M5 := Lib.hid (M4.out.keep hb5)
  clear hb5 HL W4 K4 M4 B4 X4 m0 m1 mf x0 x1 x2 x3 xf
  obtain ⟨m0, m1, mf⟩ := b2 K5.out
  obtain ⟨x0, x1, x2, x3, xf⟩ := b4' X5.out
  cases lg with
  | true =>
    go_wp2_with fail
    refine (HAW.out _ B5.out).mono ?_
    rintro e w6 ⟨rfl, hb6⟩
    have B6 := Lib.hid (below_more B5.out hb6)
    clear hb6
    go_wp2_with fail
    go_ret
    exact ⟨rfl, B6.out⟩
  | false =>
    have hfew : ∀ K ∈ [M, (⟨[], [X]⟩ : MapP)], FewM K := longLg_small _ 0 (by have := of_decide_eq_false HLG.out; omega)
    have HFW := Lib.hid (hfew M List.mem_cons_self)
    have HFX := Lib.hid ((hfew ⟨[], [X]⟩ (by simp)).2.2.2 X (by simp))
    have hn24 : n2 ≤ 4000 := by rw [← HN2.out]; exact HFW.out.2.1
    clear hfew HLG
    obtain ⟨ps, hps⟩ : ∃ n, p.size = n := ⟨_, rfl⟩
    by_cases h1000 : 1000 < ps
    · have g1 : (1000 : Int) < (ps : Int) := by omega
      go_wp2_with fail
      refine (HAW.out _ B5.out).mono ?_
      rintro e w6 ⟨rfl, hb6⟩
      have B6 := Lib.hid (below_more B5.out hb6)
      clear hb6
      go_wp2_with fail
      go_ret
      exact ⟨rfl, B6.out⟩
    · have g1 : ¬ (1000 : Int) < (ps : Int) := by omega
      go_wp2_with fail
      refine (HAW.out _ B5.out).mono ?_
      rintro e w6 ⟨rfl, hb6⟩
      have B6 := Lib.hid (below_more B5.out hb6)
      have K6 := Lib.hid (BlkAt.keep K5.out hb6)
      have X6 := Lib.hid (BlkAt.keep X5.out hb6)
      have M6 := Lib.hid (M5.out.keep hb6)
      clear hb6 K5 X5 M5 B5 HAW m0 m1 mf x0 x1 x2 x3 xf
      obtain ⟨m0, m1, mf⟩ := b2 K6.out
      obtain ⟨F, hF⟩ : ∃ l, forV hitB p M.maps = l := ⟨_, rfl⟩
      obtain ⟨nF, hnF⟩ : ∃ n, F.length = n := ⟨_, rfl⟩
      have HFO := Lib.hid (For_at M p F hF nF hnF _ w6 M6.out HPS.out HFW.out)
      have HF := Lib.hid hF
      have HNF := Lib.hid hnF
      have hnf4 : nF ≤ 4000 := by
        rw [← hnF, ← hF]
        exact Nat.le_trans (forV_len _) HFW.out.2.1
      clear hF hnF
      go_wp2_with fail
      refine HFO.out.mono ?_
      rintro e w7 ⟨hb7, la, lc, rfl, hl7⟩
      have B7 := Lib.hid (below_more B6.out hb7)
      have K7 := Lib.hid (BlkAt.keep K6.out hb7)
      have X7 := Lib.hid (BlkAt.keep X6.out hb7)
      have L7 := Lib.hid hl7
      clear hb7 hl7 K6 X6 M6 B6 HFO m0 m1 mf
      obtain ⟨m0, m1, mf⟩ := b2 K7.out
      obtain ⟨x0, x1, x2, x3, xf⟩ := b4' X7.out
      obtain ⟨k, hk, hke⟩ := place_of at_ n2 hn24
      have w1' : IntKind.i64.wrap ((n2 : Int) + 1) = (n2 : Int) + 1 := IntWalk.i64_in _ (by omega)
      have hw64 : IntKind.u64.wrap ((n2 : Int) + 1) = (n2 : Int) + 1 := by simp [IntKind.wrap, IntKind.bits, IntKind.signed]; omega
      have hwk : IntKind.i64.wrap (k : Int) = (k : Int) := IntWalk.i64_in _ (by omega)
      have hnz : ((n2 : Int) + 1 == 0) = false := by rw [beq_eq_false_iff_ne]; omega
      have hnz' : ¬ ((n2 : Int) + 1 = 0) := by omega
      go_wp2_with fail
      obtain ⟨ml, hml⟩ : ∃ l, M.maps = l := ⟨_, rfl⟩
      rw [hml] at HMC HF HN2
      have HML := Lib.hid hml
      clear hml hke hw64 hnz hnz'
      go_loopw [11, 12] (fun ov i wr => ∃ (j : Nat) (o : Bool), j ≤ k ∧ i = .int .i64 j ∧ ov = .bool o ∧ Hid (o = overB p (ml.take j)) ∧ Hid (Below w7.heap.size w7 wr)) (fun _ i _ => k - (intOf i).toNat)
      case atStart => exact ⟨0, false, by omega, rfl, rfl, rfl, Below.refl _ _⟩
      case round =>
        obtain ⟨j, o, hj, rfl, rfl, HO, HB⟩ := hrel
        have l0 := cell_keep HB.out m0
        have l1 := cell_keep HB.out m1
        by_cases hjk : j < k
        · obtain ⟨x, hx⟩ : ∃ s, ml[j]? = some s := ⟨_, List.getElem?_eq_getElem (by rw [HN2.out]; omega)⟩
          obtain ⟨xb, xo, b1, e1, b2', e2, rfl, p0, p1, p2, p3, ys1, -, -⟩ := HMC.out j x hx
          have HBr := Lib.hid (below_more B7.out HB.out)
          have p0 := cell_keep HBr.out p0
          have p1 := cell_keep HBr.out p1
          have p2 := cell_keep HBr.out p2
          have p3 := cell_keep HBr.out p3
          have i0' : (0 : Int) ≤ (j : Int) := by omega
          have i1' : (j : Int) < (k : Int) := by omega
          have i2' : (j : Int) < (n2 : Int) := by omega
          have hst := overB_step (p := p) hx
          cases o with
          | true =>
            have ho : true = overB p (ml.take (j + 1)) := by rw [hst, ← HO.out]; rfl
            have HO2 := Lib.hid ho
            clear ho hst hx
            go_wp2_with fail
            exact ⟨⟨j + 1, true, by omega, by go_num, rfl, HO2, HB⟩, by simp [intOf]; omega⟩
          | false =>
            obtain ⟨xt, hxt⟩ : ∃ b, x.term = b := ⟨_, rfl⟩
            rw [hxt] at p2 hst
            cases xt with
            | false =>
              have ho : false = overB p (ml.take (j + 1)) := by rw [hst, ← HO.out]; rfl
              have HO2 := Lib.hid ho
              clear ho hst hx
              go_wp2_with fail
              exact ⟨⟨j + 1, false, by omega, by go_num, rfl, HO2, HB⟩, by simp [intOf]; omega⟩
            | true =>
              obtain ⟨mt, hmt⟩ : ∃ b, anyH hitB x.paths p = b := ⟨_, rfl⟩
              obtain ⟨z3, hz3⟩ : ∃ b, x.paths.length = b := ⟨_, rfl⟩
              obtain ⟨z4, hz4⟩ : ∃ b, x.repos.length = b := ⟨_, rfl⟩
              obtain ⟨zh, hzh⟩ : ∃ b, x.thr = b := ⟨_, rfl⟩
              rw [hz3] at p0 ys1
              rw [hz4] at p1
              rw [hzh] at p3
              have HMX := Lib.hid (fun Y (hY : Below w.heap.size w Y) => Matches_any x p b1 b2' z3 e1 z4 e2 Y (ys1.keep hY) HPS.out)
              rw [hmt, hxt, hzh] at HMX
              have ho : mt = overB p (ml.take (j + 1)) := by rw [hst, ← HO.out, hmt]; rfl
              have HO2 := Lib.hid ho
              clear ho hst hx hxt hmt hz3 hz4 hzh ys1
              go_wp2_with fail
              refine (HMX.out _ HBr.out).mono ?_
              rintro e w8 ⟨rfl, hb8⟩
              have HB8 := Lib.hid (below_more HB.out hb8)
              clear hb8 HMX
              go_wp2_with fail
              exact ⟨⟨j + 1, mt, by omega, by go_num, rfl, HO2, HB8⟩, by simp [intOf]; omega⟩
        · obtain rfl : j = k := by omega
          have i1' : ¬ (j : Int) < (j : Int) := by omega
          obtain ⟨w8, hw8⟩ : ∃ y, y = wr.alloc (.cells #[.slice a1 n1 c1, .slice a2 n2 c2] 25) := ⟨_, rfl⟩
          have hb8 : Below wr.heap.size wr w8 := by rw [hw8]; exact bel_alloc (Below.refl _ _) _
          have KN8 : Hid (BlkAt w8 wr.heap.size 25 #[.slice a1 n1 c1, .slice a2 n2 c2]) := by rw [hw8]; exact blkAt_new wr _ _
          have B78 := Lib.hid (below_more HB.out hb8)
          have W8 := Lib.hid hw8
          have K8 := Lib.hid (BlkAt.keep K7.out B78.out)
          have X8 := Lib.hid (BlkAt.keep X7.out B78.out)
          have e8 : w8.heap.size = wr.heap.size + 1 := by rw [hw8, size_al]
          clear hw8 hb8 m0 m1 mf x0 x1 x2 x3 xf
          go_wp2_with fail
          rw [← W8.out]
          obtain ⟨nb, hnb⟩ : ∃ z, wr.heap.size = z := ⟨_, rfl⟩
          rw [hnb] at KN8 e8 ⊢
          have HE8 := Lib.hid e8
          have HLTN : Hid (w.heap.size + 1 < nb) := by show _ < _; rw [← hnb]; have := K7.out.lt; have := X7.out.lt; have := HB.out.size; omega
          have HLT7 : Hid (w7.heap.size ≤ nb) := by show _ ≤ _; rw [← hnb]; exact HB.out.size
          have HNBLE : Hid (nb ≤ w8.heap.size) := by show _ ≤ _; omega
          clear e8
          clear l0 l1 hnb
          obtain ⟨m0, m1, mf⟩ := b2 K8.out
          obtain ⟨x0, x1, x2, x3, xf⟩ := b4' X8.out
          obtain ⟨v0, v1, vf⟩ := b2 KN8.out
          have i3 : (j : Int) ≤ (n2 : Int) := by omega
          have i4 : (0 : Int) ≤ (j : Int) := by omega
          have i5 : (j : Int) ≤ (c2 : Int) := by omega
          have i6 : (n2 : Int) ≤ (c2 : Int) := by omega
          obtain ⟨gs, hgs, hga, hgc⟩ := HMM.out.gx
          have hgl : gs.length = n2 := by rw [← HN2.out, ← HML.out, ← hgs, List.length_map]
          obtain ⟨i0, hi, hz0, hz1, hz2⟩ := info_parts infoMapg
          have HI := Lib.hid hi
          have HZ0 := Lib.hid hz0
          have HZ1 := Lib.hid hz1
          have HZ2 := Lib.hid hz2
          have HGA := Lib.hid hga
          have HGS := Lib.hid hgs
          have HGXX : Hid (GxAt w ⟨X, u1, d1, u2, d2⟩) := by
            obtain ⟨aa1, cc1, aa2, cc2, ee, s1, s2, k1, k2, k3⟩ := HXM.out.parts
            simp only [Value.agg.injEq, Array.mk.injEq, List.cons.injEq, Value.slice.injEq, and_true] at ee
            obtain ⟨⟨rfl, -, rfl⟩, ⟨rfl, -, rfl⟩, -, -⟩ := ee
            exact ⟨s1, s2, k1, k2, k3⟩
          have HGC := Lib.hid hgc
          have HGL := Lib.hid hgl
          have B08 := Lib.hid (below_more B7.out B78.out)
          have hc1 : (gxCells (gs.take j)).length = j * 4 := by rw [gxCells_len, List.length_take, HGL.out]; omega
          have hc2 : (gxCells (gs.drop j)).length = (n2 - j) * 4 := by rw [gxCells_len, List.length_drop, HGL.out]
          have HC1 := Lib.hid hc1
          have HC2 := Lib.hid hc2
          have hone : ∀ l : List GX, ∀ u ∈ gxCells l, u.oneCell' = true := fun l u hu => by
            obtain ⟨g, -, hg⟩ := List.mem_flatMap.1 hu
            exact GX.cells_one g u hg
          have HONE := Lib.hid hone
          have hnf : ∀ (Y : World), Below w8.heap.size w8 Y → ∀ r u, (gxCells (gs.take j))[r]? = some u → ∃ ad, a2 = some ad ∧ Y.cell? (ad.add r) = some u := fun Y hY r u hu => by
            obtain ⟨b, o, ea, hc⟩ := HGC.out r u (by
              have hl := (List.getElem?_eq_some_iff.1 hu).1
              have e := gxCells_app (gs.take j) (gs.drop j)
              rw [List.take_append_drop] at e
              rw [e, List.getElem?_append_left hl]
              exact hu)
            exact ⟨⟨b, o, none⟩, ea, by rw [add_none]; exact cell_keep (below_more B08.out hY) hc⟩
          have HNF1 := Lib.hid hnf
          have HNF2 : Hid (∀ (Y : World), Below w8.heap.size w8 Y → ∀ r u, (gxCells (gs.drop j))[r]? = some u → ∃ ad, (if c2 = j then a2 else a2.map (fun a => a.add (j * 4))) = some ad ∧ Y.cell? (ad.add r) = some u) := fun Y hY r u hu => by
            have hl := (List.getElem?_eq_some_iff.1 hu).1
            rw [HC2.out] at hl
            obtain ⟨b, o, ea, hc⟩ := HGC.out (j * 4 + r) u (by
              have e := gxCells_app (gs.take j) (gs.drop j)
              rw [List.take_append_drop] at e
              rw [e, List.getElem?_append_right (by rw [HC1.out]; omega), HC1.out, Nat.add_sub_cancel_left]
              exact hu)
            have hcj : ¬ c2 = j := by omega
            refine ⟨⟨b, o + j * 4, none⟩, by rw [if_neg hcj, ea, Option.map_some, add_none], ?_⟩
            rw [add_none, Nat.add_assoc]
            exact cell_keep (below_more B08.out hY) hc
          clear hi hz0 hz1 hz2 hgc hgl hc1 hc2 hone hnf
          have HXC : Hid (∀ (i : Nat) (u : Value), [Value.slice u1 n3 d1, .slice u2 n4 d2, .bool bt, .int .i64 th][i]? = some u → (#[Value.slice u1 n3 d1, .slice u2 n4 d2, .bool bt, .int .i64 th] : Array Value)[i]? = some u) := fun i u hu => by simpa using hu
          have HV7 := Lib.hid (show ∀ Y, Below w8.heap.size w8 Y → Y.cell? ⟨nb, 1, none⟩ = some (.slice a2 n2 c2) ∧ Y.frozen? ⟨nb, 1, none⟩ = false from fun Y hY => ⟨cell_keep hY v1, (hY.frozen (p := ⟨nb, 1, none⟩) KN8.out.lt).trans (vf 1)⟩)
          have HGM : Hid (((gs.take j ++ (⟨X, u1, d1, u2, d2⟩ : GX) :: gs.drop j).map GX.x) = ml.take j ++ X :: ml.drop j) := by
            show _ = _
            rw [List.map_append, List.map_cons, List.map_take, List.map_drop, HGS.out, HML.out]
          have HBS : Hid (∀ (Y : World) (v : Value), Below w8.heap.size w8 Y → Hid (Below w7.heap.size w7 (Y.setCell ⟨nb, 1, none⟩ v))) := fun Y v hY => bel_set (below_more B78.out hY) (by show w7.heap.size ≤ nb; exact HLT7.out) _
          have HKS : Hid (∀ (Y : World) (v : Value), Below w8.heap.size w8 Y → ∀ {ta tc}, v = .slice ta (n2 + 1) tc → Hid (BlkAt (Y.setCell ⟨nb, 1, none⟩ v) nb 25 #[.slice a1 n1 c1, .slice ta (n2 + 1) tc])) := fun Y v hY {ta tc} e => by
            subst e
            exact BlkAt.set (BlkAt.keep KN8.out hY) 1 _
          have HGX0 : Hid (GX.cells ⟨X, u1, d1, u2, d2⟩ = [.slice u1 n3 d1, .slice u2 n4 d2, .bool bt, .int .i64 th]) := by
            show [Value.slice u1 X.paths.length d1, .slice u2 X.repos.length d2, .bool X.term, .int .i64 X.thr] = _
            rw [HN3.out, HN4.out, HBT.out, HTH.out]
          go_cut [] (fun wx => ∃ (ta : Option Addr) (tc : Nat), Hid (Below w7.heap.size w7 wx) ∧ Hid (BlkAt wx nb 25 #[.slice a1 n1 c1, .slice ta (n2 + 1) tc]) ∧ Hid (MapsAt wx (.slice ta (n2 + 1) tc) (ml.take j ++ X :: ml.drop j)))
          case first =>
            go_region_held_law (fun w' => Below nb w8 w' ∧ w'.cell? ⟨w.heap.size, 1, none⟩ = some (.slice a2 n2 c2) ∧ w'.cell? ⟨w.heap.size + 1, 0, none⟩ = some (.slice u1 n3 d1) ∧ w'.cell? ⟨w.heap.size + 1, 1, none⟩ = some (.slice u2 n4 d2) ∧ w'.cell? ⟨w.heap.size + 1, 2, none⟩ = some (.bool bt) ∧ w'.cell? ⟨w.heap.size + 1, 3, none⟩ = some (.int .i64 th))
              ((refine (fun h => ⟨h, (h.cell (p := ⟨w.heap.size, 1, none⟩) (Nat.lt_of_succ_lt HLTN.out)).trans m1, (h.cell (p := ⟨w.heap.size + 1, 0, none⟩) HLTN.out).trans x0, (h.cell (p := ⟨w.heap.size + 1, 1, none⟩) HLTN.out).trans x1, (h.cell (p := ⟨w.heap.size + 1, 2, none⟩) HLTN.out).trans x2, (h.cell (p := ⟨w.heap.size + 1, 3, none⟩) HLTN.out).trans x3⟩ : Below nb w8 _ → _) ?_; first | exact Below.setCell (Below.mono (show Below w8.heap.size w8 _ from (by (repeat (first | exact Below.refl _ _ | assumption | refine bel_drew ?_ | refine bel_alloc ?_ _)))) HNBLE.out) (by show nb ≤ nb; exact Nat.le_refl _) _ | exact Below.mono (show Below w8.heap.size w8 _ from (by (repeat (first | exact Below.refl _ _ | assumption | refine bel_drew ?_ | refine bel_alloc ?_ _)))) HNBLE.out))
              (first
                | (refine step_append_anyC _ rfl _ _ _ rfl w8.heap.size 39 i0 _ 4 64 Tryz.underlying23 HI.out HZ0.out HZ1.out HZ2.out rfl (by decide) (.slice (some ⟨_, 0, none⟩) 0 0) 0 [] rfl (by first | with_reducible exact own_empty _ _ _ (Nat.le_refl _) | with_reducible exact World.ownsRow.drew (own_empty _ _ _ (Nat.le_refl _)) | with_reducible exact own_c _ _ _ | with_reducible exact World.ownsRow.drew (own_c _ _ _) | with_reducible exact own_d _ _ _ | with_reducible exact World.ownsRow.drew (own_d _ _ _) | exact own_empty _ _ _ (Nat.le_refl _) | exact World.ownsRow.drew (own_empty _ _ _ (Nat.le_refl _)) | exact World.ownsRow.drew (own_empty _ _ _ (by simp [size_al])) | exact World.ownsRow.drew (World.ownsRow.alloc (own_empty _ _ _ (Nat.le_refl _)) _) | exact World.ownsRow.drew (World.ownsRow.alloc (World.ownsRow.drew (own_empty _ _ _ (Nat.le_refl _))) _)) a2 j _ (gxCells (gs.take j)) rfl HC1.out (HNF1.out _ (by (repeat (first | exact Below.refl _ _ | assumption | refine bel_drew ?_ | refine bel_alloc ?_ _)))) (HONE.out _) (by unfold maxLen; omega) (by omega) (Below.size (by (repeat (first | exact Below.refl _ _ | assumption | refine bel_drew ?_ | refine bel_alloc ?_ _)))) ?_; intro va wa howna hga hata; have hbA : Below w8.heap.size w8 wa := Below.grown (show Below w8.heap.size w8 _ from (by (repeat (first | exact Below.refl _ _ | assumption | refine bel_drew ?_ | refine bel_alloc ?_ _)))) hga (Below.size (show Below w8.heap.size w8 _ from (by (repeat (first | exact Below.refl _ _ | assumption | refine bel_drew ?_ | refine bel_alloc ?_ _))))) (fun kk hkk => by have hk2 := Option.some.inj hkk; rw [← hk2]; first | (show w8.heap.size ≤ w8.heap.size + 1; omega) | (show w8.heap.size ≤ w8.heap.size; exact Nat.le_refl _) | exact Below.size (show Below w8.heap.size w8 _ from (by (repeat (first | exact Below.refl _ _ | assumption | refine bel_drew ?_ | refine bel_alloc ?_ _))))); have hnwa := fun b o v (hc : World.cell? _ ⟨b, o, none⟩ = some v) hne => grown_cell hga (b := b) (o := o) (v := v) hc hne)
                | (refine step_append_anyC _ rfl _ _ _ rfl w8.heap.size 39 i0 _ 4 64 Tryz.underlying23 HI.out HZ0.out HZ1.out HZ2.out rfl (by decide) va (0 + j) ([] ++ gxCells (gs.take j)) rfl (by first | exact howna | exact World.ownsRow.drew howna | exact World.ownsRow.alloc howna _ | exact World.ownsRow.drew (World.ownsRow.alloc howna _) | exact World.ownsRow.drew (World.ownsRow.alloc (World.ownsRow.drew howna) _)) _ 1 1 [.slice u1 n3 d1, .slice u2 n4 d2, .bool bt, .int .i64 th] (show _ = Value.slice (some ⟨_, 0, none⟩) 1 1 from rfl) rfl (by intro i u hu; refine ⟨_, rfl, ?_⟩; rw [add_none, Nat.zero_add]; first | with_reducible exact xc_a _ (HXC.out _ _ hu) | exact hnwa _ _ _ (xc_b w8 _ (HXC.out _ _ hu)) (by simp [Value.ownBlock]) | exact hnwa _ _ _ (xc_e w8 _ (HXC.out _ _ hu)) (by simp [Value.ownBlock]) | exact hnwa _ _ _ (xc_d w8 _ (HXC.out _ _ hu)) (by simp [Value.ownBlock]) | exact hnwa _ _ _ (xc_c w8 _ (HXC.out _ _ hu)) (by simp [Value.ownBlock])) (by intro u hu; simp only [List.mem_cons, List.not_mem_nil, or_false] at hu; rcases hu with rfl | rfl | rfl | rfl <;> rfl) (by unfold maxLen; omega) (by omega) (Below.size (show Below w8.heap.size w8 _ from (by (repeat (first | exact Below.refl _ _ | assumption | refine bel_drew ?_ | refine bel_alloc ?_ _))))) ?_; intro vz wz howb hgb hatb; have hbB : Below w8.heap.size w8 wz := Below.grown (show Below w8.heap.size w8 _ from (by (repeat (first | exact Below.refl _ _ | assumption | refine bel_drew ?_ | refine bel_alloc ?_ _)))) hgb (Below.size (show Below w8.heap.size w8 _ from (by (repeat (first | exact Below.refl _ _ | assumption | refine bel_drew ?_ | refine bel_alloc ?_ _))))) (fun kk hkk => (World.ownsRow.lt howna kk hkk).1))
                | (refine step_append_anyC _ rfl _ _ _ rfl w8.heap.size 39 i0 _ 4 64 Tryz.underlying23 HI.out HZ0.out HZ1.out HZ2.out rfl (by decide) vz (0 + j + 1) ([] ++ gxCells (gs.take j) ++ [.slice u1 n3 d1, .slice u2 n4 d2, .bool bt, .int .i64 th]) rfl (by first | exact howb | exact World.ownsRow.drew howb) _ (n2 - j) _ (gxCells (gs.drop j)) rfl HC2.out (HNF2.out _ (by (repeat (first | exact Below.refl _ _ | assumption | refine bel_drew ?_ | refine bel_alloc ?_ _)))) (HONE.out _) (by unfold maxLen; omega) (by omega) (Below.size (show Below w8.heap.size w8 _ from (by (repeat (first | exact Below.refl _ _ | assumption | refine bel_drew ?_ | refine bel_alloc ?_ _))))) ?_; intro vx wx howc hgc2 hatc; have hbC : Below w8.heap.size w8 wx := Below.grown (show Below w8.heap.size w8 _ from (by (repeat (first | exact Below.refl _ _ | assumption | refine bel_drew ?_ | refine bel_alloc ?_ _)))) hgc2 (Below.size (show Below w8.heap.size w8 _ from (by (repeat (first | exact Below.refl _ _ | assumption | refine bel_drew ?_ | refine bel_alloc ?_ _))))) (fun kk hkk => (World.ownsRow.lt howb kk hkk).1); obtain ⟨gx3, cx3, rfl, hgx3, hgx3'⟩ := World.ownsRow.form howc (by omega); obtain ⟨hs1, hs2⟩ := HV7.out _ hbC; obtain ⟨hs3, hs4⟩ := HV7.out _ (bel_drew hbC))
                | fail)
            all_goals (
              obtain ⟨zz, hzz⟩ : ∃ zz, (if c2 = j then a2 else Option.map (fun a => a.add (j * 4)) a2) = zz := ⟨_, rfl⟩
              rw [hzz]
              clear hzz
              have hq0 : 0 + j + 1 + (n2 - j) = n2 + 1 := by omega
              have hq1 : j + 1 + (n2 - j) = n2 + 1 := by omega
              rw [hq0] at howc
              rw [hq1]
              clear hq0 hq1
              go_wp2_with fail
              go_simp
              go_meet
              case rel =>
                obtain ⟨ta, tc, e2, hmt⟩ := behind_row (g := ⟨X, u1, d1, u2, d2⟩) (gs := gs) (j := j) (n2 := n2) howc (by rw [HGX0.out, List.nil_append]) rfl HGL.out hn24 HGA.out HGXX.out hbC B08.out KN8.out.lt (by have := HLTN.out; omega)
                have hmt2 := HGM.out
                rw [hmt2] at hmt
                exact ⟨_, _, HBS.out _ _ hbC, HKS.out _ _ hbC rfl, hmt⟩)
          case rest =>
            obtain ⟨ta, tc, HB9, HK9, HM9⟩ := hcut
            have B9 := Lib.hid (below_more B7.out HB9.out)
            have K9 := Lib.hid (BlkAt.keep K7.out HB9.out)
            have X9 := Lib.hid (BlkAt.keep X7.out HB9.out)
            have L9 := Lib.hid (L7.out.keep HB9.out)
            have HAL : Hid (ml.take j ++ ml.drop j = ml) := List.take_append_drop j ml
            obtain ⟨G, hG⟩ : ∃ l, forV hitB p (ml.take j ++ X :: ml.drop j) = l := ⟨_, rfl⟩
            obtain ⟨nG, hnG⟩ : ∃ n, G.length = n := ⟨_, rfl⟩
            have hmn : MapAt wc (.agg #[.slice a1 n1 c1, .slice ta (n2 + 1) tc]) ⟨M.repos, ml.take j ++ X :: ml.drop j⟩ := by
              obtain ⟨b1, d1', b2', d2', e, hrp, -⟩ := (HMH.out.keep B9.out).parts
              simp only [Value.agg.injEq, Array.mk.injEq, List.cons.injEq, Value.slice.injEq, and_true] at e
              obtain ⟨⟨rfl, e2, rfl⟩, -⟩ := e
              rw [← e2] at hrp
              exact ⟨_, _, rfl, hrp, HM9.out⟩
            have HFO := Lib.hid (For_atB ⟨M.repos, ml.take j ++ X :: ml.drop j⟩ p G hG nG hnG _ wc hmn HPS.out (by
              show (ml.take j ++ X :: ml.drop j).length ≤ 4001
              rw [List.length_append, List.length_cons, List.length_take, List.length_drop, HN2.out]; omega) (fun x hx => by
              rcases List.mem_append.1 hx with hx | hx
              · exact HFW.out.2.2.2 x (by rw [HML.out]; exact List.mem_of_mem_take hx)
              · rcases List.mem_cons.1 hx with rfl | hx
                · exact HFX.out
                · exact HFW.out.2.2.2 x (by rw [HML.out]; exact List.mem_of_mem_drop hx)))
            have HG := Lib.hid hG
            have HNG := Lib.hid hnG
            clear hG hnG hmn m0 m1 mf x0 x1 x2 x3 xf v0 v1 vf
            clear HNF1 HNF2 HI HZ0 HZ1 HZ2 HGC HGL HGA HGS HGXX HONE HC1 HC2 HV7 HXC HGX0 HGM HBS HKS HM9
            obtain ⟨v0, v1, vf⟩ := b2 HK9.out
            go_wp2_with fail
            refine HFO.out.mono ?_
            rintro e w10 ⟨hb10, na, nc, rfl, hl10⟩
            have B10 := Lib.hid (below_more B9.out hb10)
            have K10 := Lib.hid (BlkAt.keep K9.out hb10)
            have X10 := Lib.hid (BlkAt.keep X9.out hb10)
            have L10 := Lib.hid (L9.out.keep hb10)
            have N10 := Lib.hid hl10
            clear hb10 hl10 v0 v1 vf HFO HK9 K9 X9 L9 HB9
            obtain ⟨m0, m1, mf⟩ := b2 K10.out
            obtain ⟨x0, x1, x2, x3, xf⟩ := b4' X10.out
            have HBSAME : Hid ((overB p (ml.take j) || !anyH hitB X.paths p) = true → G = F) := fun h => by
              rw [← HG.out, behind_same h, HAL.out]
              exact HF.out
            cases o with
            | true =>
              have HGF : Hid (G = F) := HBSAME.out (by rw [← HO.out]; rfl)
              have HBY := Lib.hid (Below.refl w10.heap.size w10)
              have HSM := Lib.hid (same25Xs_any F G (.slice la nF lc) (.slice na nG nc) w10 (L10.out.keep HBY.out) (N10.out.keep HBY.out))
              rw [decide_eq_true HGF.out.symm] at HSM
              go_wp2_with fail
              refine HSM.out.mono ?_
              rintro e w12 ⟨rfl, hb12⟩
              have HBE := Lib.hid (below_more (below_more B10.out HBY.out) hb12)
              clear hb12
              go_wp2_with fail
              go_ret
              exact ⟨rfl, HBE.out⟩
            | false =>
              obtain ⟨mt, hmt⟩ : ∃ b, anyH hitB X.paths p = b := ⟨_, rfl⟩
              have HMX := Lib.hid (Matches_any X p u1 u2 n3 d1 n4 d2 w10 (HS1.out.keep B10.out) HPS.out)
              rw [hmt, HBT.out, HTH.out] at HMX
              have HMT := Lib.hid hmt
              clear hmt
              go_wp2_with fail
              refine HMX.out.mono ?_
              rintro e w11 ⟨rfl, hb11⟩
              have HBY := Lib.hid hb11
              clear hb11 HMX
              cases mt with
              | false =>
                have HGF : Hid (G = F) := HBSAME.out (by rw [HMT.out]; simp)
                have HSM := Lib.hid (same25Xs_any F G (.slice la nF lc) (.slice na nG nc) w11 (L10.out.keep HBY.out) (N10.out.keep HBY.out))
                rw [decide_eq_true HGF.out.symm] at HSM
                go_wp2_with fail
                refine HSM.out.mono ?_
                rintro e w12 ⟨rfl, hb12⟩
                have HBE := Lib.hid (below_more (below_more B10.out HBY.out) hb12)
                clear hb12
                go_wp2_with fail
                go_ret
                exact ⟨rfl, HBE.out⟩
              | true =>
                have B11 := Lib.hid (below_more B10.out HBY.out)
                have K11 := Lib.hid (BlkAt.keep K10.out HBY.out)
                have X11 := Lib.hid (BlkAt.keep X10.out HBY.out)
                have L11 := Lib.hid (L10.out.keep HBY.out)
                have N11 := Lib.hid (N10.out.keep HBY.out)
                have hth := behind_there (p := p) (a := ml.take j) (b := ml.drop j) (x := X) (by rw [← HO.out, HMT.out]; rfl)
                rw [HG.out, HAL.out, HF.out] at hth
                have HTHERE := Lib.hid hth
                clear hth m0 m1 mf x0 x1 x2 x3 xf HBSAME HO K10 X10 L10 N10 HBY
                obtain ⟨m0, m1, mf⟩ := b2 K11.out
                go_wp2_with fail
                go_loopw [15, 16] (fun cv iv wr => ∃ (k q : Nat), k ≤ j ∧ iv = .int .i64 k ∧ cv = .int .i64 q ∧ Hid (q = (hitsV p (ml.take k)).length ∧ q ≤ k) ∧ Hid (Below w11.heap.size w11 wr)) (fun _ i _ => j - (intOf i).toNat)
                case atStart => exact ⟨0, 0, by omega, rfl, rfl, ⟨rfl, Nat.le_refl _⟩, Below.refl _ _⟩
                case round =>
                  obtain ⟨k, q, hkj, rfl, rfl, HQ, HB⟩ := hrel
                  have l0 := cell_keep HB.out m0
                  have l1 := cell_keep HB.out m1
                  by_cases hjk : k < j
                  · obtain ⟨x, hx⟩ : ∃ s, ml[k]? = some s := ⟨_, List.getElem?_eq_getElem (by rw [HN2.out]; omega)⟩
                    obtain ⟨xb, xo, b1, e1, b2', e2, rfl, p0, p1, p2, p3, ys1, -, -⟩ := HMC.out k x hx
                    have HBr := Lib.hid (below_more B11.out HB.out)
                    have p0 := cell_keep HBr.out p0
                    have p1 := cell_keep HBr.out p1
                    have p2 := cell_keep HBr.out p2
                    have p3 := cell_keep HBr.out p3
                    have i0' : (0 : Int) ≤ (k : Int) := by omega
                    have i1' : (k : Int) < (j : Int) := by omega
                    have i2' : (k : Int) < (n2 : Int) := by omega
                    have hst := hitsV_step (p := p) hx
                    obtain ⟨z3, hz3⟩ : ∃ b, x.paths.length = b := ⟨_, rfl⟩
                    obtain ⟨z4, hz4⟩ : ∃ b, x.repos.length = b := ⟨_, rfl⟩
                    obtain ⟨zt, hzt⟩ : ∃ b, x.term = b := ⟨_, rfl⟩
                    obtain ⟨zh, hzh⟩ : ∃ b, x.thr = b := ⟨_, rfl⟩
                    obtain ⟨mm, hmm⟩ : ∃ b, anyH hitB x.paths p = b := ⟨_, rfl⟩
                    rw [hz3] at p0 ys1
                    rw [hz4] at p1
                    rw [hzt] at p2
                    rw [hzh] at p3
                    have HMY := Lib.hid (fun Y (hY : Below w.heap.size w Y) => Matches_any x p b1 b2' z3 e1 z4 e2 Y (ys1.keep hY) HPS.out)
                    rw [hmm, hzt, hzh] at HMY
                    rw [hmm] at hst
                    have HST := Lib.hid hst
                    clear hst hx hmm hz3 hz4 hzt hzh ys1
                    cases mm with
                    | true =>
                      have HQ2 : Hid (q + 1 = (hitsV p (ml.take (k + 1))).length ∧ q + 1 ≤ k + 1) := by
                        refine ⟨?_, by have := HQ.out.2; omega⟩
                        rw [HST.out, if_pos rfl, ← HQ.out.1]
                      go_wp2_with fail
                      refine (HMY.out _ HBr.out).mono ?_
                      rintro e w12 ⟨rfl, hb12⟩
                      have HB12 := Lib.hid (below_more HB.out hb12)
                      have hq := HQ.out.2
                      have hwq : IntKind.i64.wrap ((q : Int) + 1) = ((q + 1 : Nat) : Int) := by rw [IntWalk.i64_in _ (by omega)]; omega
                      clear hb12 HMY HQ
                      go_wp2_with fail
                      exact ⟨⟨k + 1, q + 1, by omega, by go_num, by go_num, HQ2, HB12⟩, by simp [intOf]; omega⟩
                    | false =>
                      have HQ2 : Hid (q = (hitsV p (ml.take (k + 1))).length ∧ q ≤ k + 1) := by
                        refine ⟨?_, by have := HQ.out.2; omega⟩
                        rw [HST.out, if_neg (by decide), ← HQ.out.1]
                        rfl
                      go_wp2_with fail
                      refine (HMY.out _ HBr.out).mono ?_
                      rintro e w12 ⟨rfl, hb12⟩
                      have HB12 := Lib.hid (below_more HB.out hb12)
                      clear hb12 HMY HQ
                      go_wp2_with fail
                      exact ⟨⟨k + 1, q, by omega, by go_num, rfl, HQ2, HB12⟩, by simp [intOf]; omega⟩
                  · obtain rfl : k = j := by omega
                    have i1' : ¬ (k : Int) < (k : Int) := by omega
                    obtain ⟨HA, hHA⟩ : ∃ l, hitsV p (ml.take k) = l := ⟨_, rfl⟩
                    obtain ⟨T, hT⟩ : ∃ l, forV hitB p (ml.drop k) = l := ⟨_, rfl⟩
                    obtain ⟨hg1, hf1⟩ := HTHERE.out
                    rw [hHA, hT] at hg1 hf1
                    obtain ⟨hq1, hq2⟩ := HQ.out
                    rw [hHA] at hq1
                    have hGq : G[q]? = some X := by rw [hg1, hq1, List.getElem?_append_right (Nat.le_refl _), Nat.sub_self]; rfl
                    have hGt : G.take q = HA := by rw [hg1, hq1, List.take_left']; rfl
                    have hFt : F.take q = HA := by rw [hf1, hq1, List.take_left']; rfl
                    have hGd : G.drop (q + 1) = (if X.term = true then [] else T) := by
                      rw [hg1, hq1, show HA ++ X :: (if X.term = true then [] else T) = (HA ++ [X]) ++ (if X.term = true then [] else T) by rw [List.append_assoc, List.singleton_append], List.drop_left' (by rw [List.length_append]; rfl)]
                    have hFd : F.drop q = T := by rw [hf1, hq1, List.drop_left']; rfl
                    have hnG1 : nG = q + 1 + (if X.term = true then [] else T : List MapgP).length := by
                      rw [← HNG.out, hg1, List.length_append, List.length_cons, hq1]; omega
                    have hnF1 : nF = q + T.length := by rw [← HNF.out, hf1, List.length_append, hq1]
                    have hnFl : nF ≤ lc := L11.out.2.1 _ _ _ rfl
                    have hnGl : nG ≤ nc := N11.out.2.1 _ _ _ rfl
                    have hbw := below_more B11.out HB.out
                    have hNr := N11.out.keep HB.out
                    have hLr := L11.out.keep HB.out
                    obtain ⟨na', nc', e0, -, hcl⟩ := hNr.at
                    rw [HNG.out] at e0
                    simp only [Value.slice.injEq, true_and] at e0
                    obtain ⟨rfl, rfl⟩ := e0
                    obtain ⟨yb, yo, y1, f1, y2, f2, rfl, p0, p1, p2, p3, zs1, zs2, zk⟩ := hcl q X hGq
                    rw [HN3.out] at p0 zs1
                    rw [HN4.out] at p1 zs2
                    rw [HBT.out] at p2
                    rw [HTH.out] at p3
                    obtain ⟨x0, x1, x2, x3, xf⟩ := b4' (BlkAt.keep X11.out HB.out)
                    have hxg := HXM.out.keep hbw
                    have hxn := zk
                    rw [HN3.out, HN4.out, HBT.out, HTH.out] at hxn
                    have HSX : Hid (∀ Y, Below wr.heap.size wr Y → Calls Tryz.prog 25 #[.agg #[.slice y1 n3 f1, .slice y2 n4 f2, .bool bt, .int .i64 th], .agg #[.slice u1 n3 d1, .slice u2 n4 d2, .bool bt, .int .i64 th]] Y fun e w' => e = .returned (.bool true) ∧ Below Y.heap.size Y w') := fun Y hY => by
                      have h := same25x_any X X _ _ Y (hxn.keep hY) (hxg.keep hY)
                      rw [decide_eq_true rfl] at h
                      exact h
                    have HSF : Hid (∀ Y, Below wr.heap.size wr Y → Calls Tryz.prog 18 #[.slice (some ⟨yb, yo, none⟩) q nc, .slice la q lc] Y fun e w' => e = .returned (.bool true) ∧ Below Y.heap.size Y w') := fun Y hY => by
                      have h1 := (hNr.front HNG.out q (by omega)).keep hY
                      have h2 := (hLr.front HNF.out q (by omega)).keep hY
                      rw [hGt] at h1
                      rw [hFt] at h2
                      have h := same25Xs_any HA HA _ _ Y h1 h2
                      rw [decide_eq_true rfl] at h
                      exact h
                    have HBW := Lib.hid hbw
                    have j0 : (0 : Int) ≤ (q : Int) := by omega
                    have j1 : (q : Int) < (nG : Int) := by omega
                    have j2 : ¬ (nG : Int) ≤ (q : Int) := by omega
                    have j3 : (q : Int) ≤ (nF : Int) := by omega
                    have j4 : (q : Int) ≤ (nc : Int) := by omega
                    have j5 : (q : Int) ≤ (lc : Int) := by omega
                    have j6 : decide ((nG : Int) ≤ (q : Int)) = false := decide_eq_false j2
                    have j7 : decide (nG ≤ q) = false := decide_eq_false (by omega)
                    have j8 : min (q : Int) (nF : Int) = (q : Int) := by omega
                    have HGD := Lib.hid hGd
                    have HFD := Lib.hid hFd
                    have HNRR := Lib.hid hNr
                    have HLRR := Lib.hid hLr
                    have HG1 := Lib.hid hnG1
                    have HF1 := Lib.hid hnF1
                    have HQG : Hid (q + 1 ≤ nG) := by show _ ≤ _; omega
                    have HQF : Hid (q ≤ nF) := by show _ ≤ _; omega
                    have HQ4 : Hid (q ≤ 4000) := by show _ ≤ _; omega
                    have HNG4 : Hid (nG ≤ 8000) := by
                      have h1 := forV_len (hit := hitB) (p := p) (ml.take k ++ X :: ml.drop k)
                      rw [HG.out, HNG.out, List.length_append, List.length_cons, List.length_take, List.length_drop, HN2.out] at h1
                      show _ ≤ _
                      omega
                    have HCAPS : Hid (nG ≤ nc ∧ nF ≤ lc) := ⟨hnGl, hnFl⟩
                    clear hg1 hf1 hq1 hq2 hGq hGt hFt hGd hFd hnG1 hnF1 hnFl hnGl hbw hNr hLr hcl hxg hxn HTHERE HQ m0 m1 l0 l1 hHA hT zk zs1 zs2
                    go_wp2_with fail
                    go_cut [136] (fun s wx => s = .bool false ∧ Hid (Below wr.heap.size wr wx))
                    case first =>
                      go_region_held3 (fun w' => Below wr.heap.size wr w' ∧ w'.cell? ⟨w.heap.size + 1, 0, none⟩ = some (.slice u1 n3 d1) ∧ w'.cell? ⟨w.heap.size + 1, 1, none⟩ = some (.slice u2 n4 d2) ∧ w'.cell? ⟨w.heap.size + 1, 2, none⟩ = some (.bool bt) ∧ w'.cell? ⟨w.heap.size + 1, 3, none⟩ = some (.int .i64 th) ∧ w'.cell? ⟨yb, yo + q * 4, none⟩ = some (.slice y1 n3 f1) ∧ w'.cell? ⟨yb, yo + q * 4 + 1, none⟩ = some (.slice y2 n4 f2) ∧ w'.cell? ⟨yb, yo + q * 4 + 2, none⟩ = some (.bool bt) ∧ w'.cell? ⟨yb, yo + q * 4 + 3, none⟩ = some (.int .i64 th))
                        ((refine (fun h => ⟨h, cell_keep h x0, cell_keep h x1, cell_keep h x2, cell_keep h x3, cell_keep h p0, cell_keep h p1, cell_keep h p2, cell_keep h p3⟩ : Below wr.heap.size wr _ → _) ?_; go_split_ands; (repeat (first | assumption | exact Below.refl _ _ | refine bel_drew ?_ | refine below_more ?_ (by assumption)))))
                        (first
                          | (go_at_call 25; refine (HSX.out _ (by (repeat (first | refine bel_drew ?_ | exact Below.refl _ _ | assumption | refine below_more ?_ (by assumption))))).mono ?_; rintro e wP ⟨rfl, hbP⟩; have hAP : Below wr.heap.size wr wP := below_more (by (repeat (first | refine bel_drew ?_ | exact Below.refl _ _ | assumption | refine below_more ?_ (by assumption)))) hbP)
                          | (go_at_call 18; refine (HSF.out _ (by (repeat (first | refine bel_drew ?_ | exact Below.refl _ _ | assumption | refine below_more ?_ (by assumption))))).mono ?_; rintro e wQ ⟨rfl, hbQ⟩; have hAQ : Below wr.heap.size wr wQ := below_more (by (repeat (first | refine bel_drew ?_ | exact Below.refl _ _ | assumption | refine below_more ?_ (by assumption)))) hbQ))
                      go_wp2_with fail
                      go_simp
                      go_meet
                      case rel => exact ⟨rfl, (by (repeat (first | refine bel_drew ?_ | exact Below.refl _ _ | assumption | refine below_more ?_ (by assumption))) : Below wr.heap.size wr _)⟩
                    case rest =>
                      obtain ⟨rfl, HBC⟩ := hcut
                      clear x0 x1 x2 x3 xf p0 p1 p2 p3 j6 j7 j8
                      obtain ⟨x0, x1, x2, x3, xf⟩ := b4' (BlkAt.keep X11.out (below_more HB.out HBC.out))
                      have HBE := Lib.hid (below_more HBW.out HBC.out)
                      have w1 : IntKind.i64.wrap ((q : Int) + 1) = (q : Int) + 1 := IntWalk.i64_in _ (by have := HQ4.out; omega)
                      have hg1 := HG1.out
                      rw [HBT.out] at hg1
                      cases bt with
                      | true =>
                        rw [if_pos rfl] at hg1
                        have e1 : ((nG : Int) == (q : Int) + 1) = true := by rw [beq_iff_eq, hg1]; simp
                        clear hg1
                        go_wp2_with fail
                        go_ret
                        exact ⟨rfl, HBE.out⟩
                      | false =>
                        rw [if_neg (by decide)] at hg1
                        have hf1 := HF1.out
                        have e1 : ((nG : Int) == (nF : Int) + 1) = true := by rw [beq_iff_eq]; omega
                        have w2 : IntKind.i64.wrap ((nF : Int) + 1) = (nF : Int) + 1 := IntWalk.i64_in _ (by have := HNG4.out; omega)
                        have s1 : (0 : Int) ≤ (q : Int) + 1 := by omega
                        have s2 : (q : Int) + 1 ≤ (nG : Int) := by have := HQG.out; omega
                        have s3 : (nG : Int) ≤ (nc : Int) := by have := HCAPS.out.1; omega
                        have s4 : (nF : Int) ≤ (lc : Int) := by have := HCAPS.out.2; omega
                        have s5 : ((q : Int) + 1).toNat = q + 1 := by omega
                        have HSB : Hid (∀ (Y : World) (b1 b2 : Option Addr) (n1 n2 c1 c2 : Nat), Below wc.heap.size wc Y → b1 = (if nc = q + 1 then some ⟨yb, yo, none⟩ else some ⟨yb, yo + (q + 1) * 4, none⟩) → n1 = nG - (q + 1) → c1 = nc - (q + 1) → b2 = (if lc = q then la else la.map (fun x => x.add (q * 4))) → n2 = nF - q → c2 = lc - q → Calls Tryz.prog 18 #[.slice b1 n1 c1, .slice b2 n2 c2] Y fun e w' => e = .returned (.bool true) ∧ Below Y.heap.size Y w') := fun Y b1 b2 n1 n2 c1 c2 hY e1 e2 e3 e4 e5 e6 => by
                          subst e1 e2 e3 e4 e5 e6
                          have h1 := (HNRR.out.back HNG.out (q + 1) HQG.out).keep (below_more HBC.out hY)
                          have h2 := (HLRR.out.back HNF.out q HQF.out).keep (below_more HBC.out hY)
                          rw [Option.map_some, add_none] at h1
                          have hd : G.drop (q + 1) = T := by rw [HGD.out, HBT.out, if_neg (by decide)]
                          rw [hd] at h1
                          rw [HFD.out] at h2
                          have h := same25Xs_any T T _ _ Y h1 h2
                          rw [decide_eq_true rfl] at h
                          exact h
                        clear hg1 hf1 HNRR HLRR HGD HFD HCAPS HNG4 HQG HQF HQ4
                        obtain rfl | d1 : nc = q + 1 ∨ ¬ nc = q + 1 := Decidable.em _
                        all_goals obtain rfl | d2 : lc = q ∨ ¬ lc = q := Decidable.em _
                        all_goals (
                          go_wp2_with fail
                          go_region_held3 (fun w' => Below wc.heap.size wc w')
                            ((repeat (first | assumption | exact Below.refl _ _ | refine bel_drew ?_ | refine below_more ?_ (by assumption))))
                            (first
                              | (go_at_call 18; refine (HSB.out _ _ _ _ _ _ _ (by (repeat (first | refine bel_drew ?_ | exact Below.refl _ _ | assumption | refine below_more ?_ (by assumption)))) (by first | rfl | (simp; done) | (simp [*]; done)) (by first | rfl | omega) (by first | rfl | omega) (by first | rfl | (simp; done) | (simp [*]; done)) (by first | rfl | omega) (by first | rfl | omega)).mono ?_; rintro e wP ⟨rfl, hbP⟩; have hAP : Below wc.heap.size wc wP := below_more (by (repeat (first | refine bel_drew ?_ | exact Below.refl _ _ | assumption | refine below_more ?_ (by assumption)))) hbP))
                          go_wp2_with fail
                          go_ret
                          exact ⟨rfl, below_more HBE.out (by (repeat (first | refine bel_drew ?_ | exact Below.refl _ _ | assumption | refine below_more ?_ (by assumption))))⟩)
end Go.Proofs.YtjnakpbobeeclaaGreatDoor
