/-
  The walk of ChartApart.
-/
import Derived.Test.YtopepakencpegaaGreatDoorChartAp
namespace Go.Proofs.YtopepakencpegaaGreatDoor
open Go.RowKit

set_option maxRecDepth 100000 in
set_option maxHeartbeats 64000000 in
theorem chartApart_walk (M : MapP) (p : ByteArray) (v : Value) (w : World) (h : MapAt w v M) (hp : p.size ≤ maxLen) (henv : NumEnv w) :
    Calls Tryz.prog 7 #[v, .string p] w fun e w' => e = .returned (.bool true) ∧ Below w.heap.size w w' := by
  have HMH := Lib.hid h
  have HNE : Hid (∀ W, Below w.heap.size w W → NumEnv W) := fun W hb => henv.below hb
  have HAW := Lib.hid (fun W (hb : Below w.heap.size w W) => awake25_any W (henv.below hb))
  obtain ⟨a1, c1, a2, c2, rfl, -, hm⟩ := h.parts
  obtain ⟨ma', mc', e1, -, hmc⟩ := hm.at
  simp only [Value.slice.injEq, true_and] at e1
  obtain ⟨rfl, rfl⟩ := e1
  obtain ⟨n1, hn1⟩ : ∃ n, M.repos.length = n := ⟨_, rfl⟩
  obtain ⟨n2, hn2⟩ : ∃ n, M.maps.length = n := ⟨_, rfl⟩
  rw [hn1, hn2] at HMH ⊢
  obtain ⟨w1, hw1⟩ : ∃ y, y = w.alloc (.cells #[.slice a1 n1 c1, .slice a2 n2 c2] 32) := ⟨_, rfl⟩
  obtain ⟨w2, hw2⟩ : ∃ y, y = w1.alloc (.cells #[.slice a1 n1 c1, .slice a2 n2 c2] 32) := ⟨_, rfl⟩
  have hb1 : Below w.heap.size w w1 := by rw [hw1]; exact bel_alloc (Below.refl _ _) _
  have hb2 : Below w1.heap.size w1 w2 := by rw [hw2]; exact bel_alloc (Below.refl _ _) _
  have e1 : w1.heap.size = w.heap.size + 1 := by rw [hw1, size_al]
  have k1 : BlkAt w1 w.heap.size 32 #[.slice a1 n1 c1, .slice a2 n2 c2] := by rw [hw1]; exact blkAt_new w _ _
  have k2 : BlkAt w2 (w.heap.size + 1) 32 #[.slice a1 n1 c1, .slice a2 n2 c2] := by rw [hw2, ← e1]; exact blkAt_new w1 _ _
  have K1 := Lib.hid (BlkAt.keep k1 hb2)
  have B2 := Lib.hid (below_more hb1 hb2)
  have M2 := Lib.hid (HMH.out.keep (below_more hb1 hb2))
  have W2 : Hid (w2 = (w.alloc (.cells #[.slice a1 n1 c1, .slice a2 n2 c2] 32)).alloc (.cells #[.slice a1 n1 c1, .slice a2 n2 c2] 32)) := by show _ = _; rw [hw2, hw1]
  have HMC := Lib.hid hmc
  have HN2 := Lib.hid hn2
  have HNR1 := Lib.hid hn1
  have HPS := Lib.hid hp
  obtain ⟨lg, hlg⟩ : ∃ b, decide (20000 ≤ longLg 0 [M]) = b := ⟨_, rfl⟩
  have HL := Lib.hid (longB [M] _ w2 (longAt_one k2 M2.out) lg hlg)
  have HLG := Lib.hid hlg
  obtain ⟨m0, m1, mf⟩ := b2 (show BlkAt (w.alloc (.cells #[.slice a1 n1 c1, .slice a2 n2 c2] 32)) w.heap.size 32 #[.slice a1 n1 c1, .slice a2 n2 c2] from blkAt_new w _ _)
  clear h hm hmc hn1 hn2 hw1 hw2 hb1 hb2 e1 k1 k2 hp henv hlg
  go_enter Tryz.func7, Tryz.ntmps7
  go_wp2_with fail
  rw [← W2.out]
  refine HL.out.mono ?_
  rintro e w3 ⟨rfl, hb3⟩
  have B3 := Lib.hid (below_more B2.out hb3)
  have K3 := Lib.hid (BlkAt.keep K1.out hb3)
  have M3 := Lib.hid (M2.out.keep hb3)
  clear hb3 HL W2 K1 M2 B2
  cases lg with
  | true =>
    go_wp2_with fail
    refine (HAW.out _ B3.out).mono ?_
    rintro e w4 ⟨rfl, hb4⟩
    have B4 := Lib.hid (below_more B3.out hb4)
    clear hb4
    go_wp2_with fail
    go_ret
    exact ⟨rfl, B4.out⟩
  | false =>
    have hfew : FewM M := longLg_small [M] 0 (by have := of_decide_eq_false HLG.out; omega) M List.mem_cons_self
    have HFW := Lib.hid hfew
    clear hfew
    obtain ⟨ps, hps⟩ : ∃ n, p.size = n := ⟨_, rfl⟩
    by_cases h1000 : 1000 < ps
    · have g1 : (1000 : Int) < (ps : Int) := by omega
      go_wp2_with fail
      refine (HAW.out _ B3.out).mono ?_
      rintro e w4 ⟨rfl, hb4⟩
      have B4 := Lib.hid (below_more B3.out hb4)
      clear hb4
      go_wp2_with fail
      go_ret
      exact ⟨rfl, B4.out⟩
    · have g1 : ¬ (1000 : Int) < (ps : Int) := by omega
      go_wp2_with fail
      refine (HAW.out _ B3.out).mono ?_
      rintro e w4 ⟨rfl, hb4⟩
      have B4 := Lib.hid (below_more B3.out hb4)
      have K4 := Lib.hid (BlkAt.keep K3.out hb4)
      have M4 := Lib.hid (M3.out.keep hb4)
      obtain ⟨m0, m1, mf⟩ := b2 K4.out
      obtain ⟨F, hF⟩ : ∃ l, forV hitB p M.maps = l := ⟨_, rfl⟩
      obtain ⟨nF, hnF⟩ : ∃ n, F.length = n := ⟨_, rfl⟩
      have HFO := Lib.hid (fun Y (hY : MapAt Y (.agg #[.slice a1 n1 c1, .slice a2 n2 c2]) M) => For_own M p F hF nF hnF _ Y hY HPS.out HFW.out)
      have hnf4 : nF ≤ 4000 := by
        rw [← hnF, ← hF]
        exact Nat.le_trans (forV_len _) HFW.out.2.1
      obtain ⟨mb, hmb⟩ : ∃ b, mayM M = b := ⟨_, rfl⟩
      obtain ⟨ec, hec⟩ : ∃ x : Int, (if mb = true then (0 : Int) else 3) = x := ⟨_, rfl⟩
      obtain ⟨VJ, hVJ⟩ : ∃ x, (if mb = true then chartJ M else zJ) = x := ⟨_, rfl⟩
      have HVU := Lib.hid (fun Y (hY : MapAt Y (.agg #[.slice a1 n1 c1, .slice a2 n2 c2]) M) => cValue_uni M mb hmb _ Y hY)
      rw [hec, hVJ] at HVU
      have HMB := Lib.hid hmb
      have HEC := Lib.hid hec
      have HVJ := Lib.hid hVJ
      have hws4 : w.heap.size < w4.heap.size := K4.out.lt
      have HFE := Lib.hid hF
      clear hb4 K3 M3 B3 HAW hF hnF hmb hec hVJ
      go_wp2_with fail
      refine (HFO.out _ M4.out).mono ?_
      rintro e w5 ⟨hb5, la, lc, gs, rfl, hgl, hgx, hmo, -⟩
      have B5 := Lib.hid (below_more B4.out hb5)
      have M5 := Lib.hid (M4.out.keep hb5)
      have HMO := Lib.hid hmo
      have HGS : Hid (∀ g ∈ gs, g.x.paths.length ≤ 4000 ∧ g.x.repos.length ≤ 4000) := fun g hg => HFW.out.2.2.2 g.x (forV_mem (hit := hitB) (p := p) (by rw [HFE.out, ← hgx]; exact List.mem_map.2 ⟨g, hg, rfl⟩))
      clear hgx
      have s45 := hb5.size
      obtain ⟨m0, m1, mf⟩ := b2 (BlkAt.keep K4.out hb5)
      have K5 := Lib.hid (BlkAt.keep K4.out hb5)
      clear hb5 hmo
      go_wp2_with fail
      refine (HFO.out _ M5.out).mono ?_
      rintro e w6 ⟨hb6, lb, ld, gs6, rfl, -, -, -, hw6⟩
      have B6 := Lib.hid (below_more B5.out hb6)
      have M6 := Lib.hid (M5.out.keep hb6)
      have K6 := Lib.hid (BlkAt.keep K5.out hb6)
      have N6 := Lib.hid hb6
      have HW6 := Lib.hid hw6
      have s56 := hb6.size
      obtain ⟨m0, m1, mf⟩ := b2 K6.out
      clear hb6 hw6 K5 M5
      go_wp2_with fail
      refine (HVU.out _ M6.out).mono ?_
      rintro e w7 ⟨hb7, ⟨yk, yn, yt, ya, yl, yc, yb, ym, ye⟩, rfl, hv7⟩
      simp only [VC.val]
      obtain ⟨w8, hw8⟩ : ∃ y, y = w7.alloc (.cells #[.int .u8 yk, .int .i64 yn, .string yt, .slice ya yl yc, .slice yb ym ye] 57) := ⟨_, rfl⟩
      have hb8 : Below w7.heap.size w7 w8 := by rw [hw8]; exact bel_alloc (Below.refl _ _) _
      have KY8 : Hid (BlkAt w8 w7.heap.size 57 #[.int .u8 yk, .int .i64 yn, .string yt, .slice ya yl yc, .slice yb ym ye]) := by rw [hw8]; exact blkAt_new w7 _ _
      have h68 := below_more hb7 hb8
      have VY8 := Lib.hid (hv7.keepB hb8)
      have B8 := Lib.hid (below_more B6.out h68)
      have K8 := Lib.hid (BlkAt.keep K6.out h68)
      have HW8 := Lib.hid (HW6.out.imp (hid_imp (Q := offB w5.heap.size none) (w' := w8) fun k hk hP => ⟨hP, h68.block k hk⟩))
      have HS8 := Lib.hid (SpI.start HMO.out B8.out (below_more N6.out h68))
      have W8 := Lib.hid hw8
      have s67 := hb7.size
      have s78 := hb8.size
      obtain ⟨vk, hvk⟩ : ∃ z, w7.heap.size = z := ⟨_, rfl⟩
      clear hb7 hb8 hw8 hv7 h68 HMO HW6 K6 M6
      go_wp2_with fail
      rw [← W8.out]
      rw [hvk] at KY8 s67 s78
      clear hvk
      go_loopw [9] (fun i wr => ∃ j : Nat, j ≤ nF ∧ i = .int .i64 j ∧ Hid (SpI w w8 wr w4.heap.size w5.heap.size (.slice la nF lc) gs)) (fun i _ => nF - (intOf i).toNat)
      case atStart => exact ⟨0, by omega, rfl, HS8⟩
      case round =>
        obtain ⟨j, hj, rfl, HSP⟩ := hrel
        by_cases hjn : j < nF
        · obtain ⟨g, hg⟩ : ∃ s, gs[j]? = some s := ⟨_, List.getElem?_eq_getElem (by rw [hgl]; exact hjn)⟩
          have HG := Lib.hid hg
          obtain ⟨q4a, q4b⟩ := HGS.out g (List.mem_of_getElem? hg)
          obtain ⟨gb, hla, p0, p1⟩ := HSP.out.cells hg
          obtain ⟨np, hnp⟩ : ∃ z, g.x.paths.length = z := ⟨_, rfl⟩
          obtain ⟨nr, hnr⟩ : ∃ z, g.x.repos.length = z := ⟨_, rfl⟩
          have HNP := Lib.hid hnp
          have HNR := Lib.hid hnr
          rw [hnp] at p0 q4a
          rw [hnr] at p1 q4b
          subst hla
          have i0' : (0 : Int) ≤ (j : Int) := by omega
          have i1' : (j : Int) < (nF : Int) := by omega
          clear hg hnp hnr
          go_wp2_with fail
          go_loopw [10] (fun i wr2 => ∃ k : Nat, k ≤ np ∧ i = .int .i64 k ∧ Hid (SpI w w8 wr2 w4.heap.size w5.heap.size (.slice (some ⟨gb, 0, none⟩) nF lc) gs)) (fun i _ => np - (intOf i).toNat)
          case atStart => exact ⟨0, by omega, rfl, HSP⟩
          case round =>
            obtain ⟨k, hk, rfl, HSQ⟩ := hrel
            obtain ⟨gb', hla', p0, p1⟩ := HSQ.out.cells HG.out
            obtain rfl : gb = gb' := by simpa using hla'
            rw [HNP.out] at p0
            rw [HNR.out] at p1
            by_cases hkn : k < np
            · obtain ⟨b, o, s, ea, h1, h2, h3, y0, T, cs, hbk⟩ := (HSQ.out.2.2.2.2 g (List.mem_of_getElem? HG.out)).1 k (by rw [HNP.out]; exact hkn)
              rw [ea] at p0
              have k0 : (0 : Int) ≤ (k : Int) := by omega
              have k1 : (k : Int) < (np : Int) := by omega
              have HQ2 := Lib.hid (HSQ.out.set (Nat.le_of_lt hws4) h1 h2 h3 (o + k) ⟨#[115, 112, 111, 105, 108, 116]⟩)
              have yf := hbk.free
              clear h1 h2 h3 ea hla' hbk
              go_wp2_with fail
              exact ⟨⟨k + 1, by omega, by go_num, HQ2⟩, by simp [intOf]; omega⟩
            · obtain rfl : k = np := by omega
              have k1 : ¬ (k : Int) < (k : Int) := by omega
              clear hla'
              go_wp2_with fail
              go_loopw [11] (fun i wr2 => ∃ k : Nat, k ≤ nr ∧ i = .int .i64 k ∧ Hid (SpI w w8 wr2 w4.heap.size w5.heap.size (.slice (some ⟨gb, 0, none⟩) nF lc) gs)) (fun i _ => nr - (intOf i).toNat)
              case atStart => exact ⟨0, by omega, rfl, HSQ⟩
              case round =>
                obtain ⟨f, hf, rfl, HSR⟩ := hrel
                obtain ⟨gb', hla', p0, p1⟩ := HSR.out.cells HG.out
                obtain rfl : gb = gb' := by simpa using hla'
                rw [HNP.out] at p0
                rw [HNR.out] at p1
                by_cases hfn : f < nr
                · obtain ⟨b, o, s, ea, h1, h2, h3, y0, T, cs, hbk⟩ := (HSR.out.2.2.2.2 g (List.mem_of_getElem? HG.out)).2 f (by rw [HNR.out]; exact hfn)
                  rw [ea] at p1
                  have k0 : (0 : Int) ≤ (f : Int) := by omega
                  have k1 : (f : Int) < (nr : Int) := by omega
                  have HQ2 := Lib.hid (HSR.out.set (Nat.le_of_lt hws4) h1 h2 h3 (o + f) ⟨#[115, 112, 111, 105, 108, 116]⟩)
                  have yf := hbk.free
                  clear h1 h2 h3 ea hla' hbk
                  go_wp2_with fail
                  exact ⟨⟨f + 1, by omega, by go_num, HQ2⟩, by simp [intOf]; omega⟩
                · obtain rfl : f = nr := by omega
                  have k1 : ¬ (f : Int) < (f : Int) := by omega
                  clear hla'
                  go_wp2_with fail
                  exact ⟨⟨j + 1, by omega, by go_num, HSR⟩, by simp [intOf]; omega⟩
        · obtain rfl : j = nF := by omega
          have i1' : ¬ (j : Int) < (j : Int) := by omega
          have hkeep : ∀ k, w5.heap.size ≤ k → wr.heap[k]? = w8.heap[k]? := fun k hk => HSP.out.2.2.1 k (Or.inr hk)
          have BW := Lib.hid HSP.out.1
          have HWS := Lib.hid (MapsAt.carryS HW8.out hkeep)
          have VYr : Hid (NewV w6.heap.size wr VJ (VC.val ⟨yk, yn, yt, ya, yl, yc, yb, ym, ye⟩)) := ValAt.carry VY8.out fun k hk hP => ⟨hP, hkeep k (by have := offB_none.1 hP; omega)⟩
          have KYr : Hid (BlkAt wr vk 57 #[.int .u8 yk, .int .i64 yn, .string yt, .slice ya yl yc, .slice yb ym ye]) := (hkeep vk (by omega)).trans KY8.out
          have K0r : Hid (BlkAt wr w.heap.size 32 #[.slice a1 n1 c1, .slice a2 n2 c2]) := (HSP.out.2.2.1 _ (Or.inl hws4)).trans K8.out
          have Mr := Lib.hid (HMH.out.keep BW.out)
          obtain ⟨m0, m1, mf⟩ := b2 K0r.out
          have hwr8 : wr.heap.size = w8.heap.size := HSP.out.2.1
          clear hkeep HSP HS8 HW8 VY8 KY8 K8 B8
          go_wp2_with fail
          refine (HVU.out _ Mr.out).mono ?_
          rintro e w9 ⟨hb9, ⟨zk, zn, zt, za, zl, zc, zb, zm, ze⟩, rfl, hv9⟩
          simp only [VC.val]
          obtain ⟨w10, hw10⟩ : ∃ y, y = w9.alloc (.cells #[.int .u8 zk, .int .i64 zn, .string zt, .slice za zl zc, .slice zb zm ze] 57) := ⟨_, rfl⟩
          have hb10 : Below w9.heap.size w9 w10 := by rw [hw10]; exact bel_alloc (Below.refl _ _) _
          have KZ : Hid (BlkAt w10 w9.heap.size 57 #[.int .u8 zk, .int .i64 zn, .string zt, .slice za zl zc, .slice zb zm ze]) := by rw [hw10]; exact blkAt_new w9 _ _
          have N10 := Lib.hid (below_more hb9 hb10)
          have VZ := Lib.hid (hv9.keepB hb10)
          have VY10 := Lib.hid (VYr.out.keepB N10.out)
          have KY10 := Lib.hid (BlkAt.keep KYr.out N10.out)
          have K10 := Lib.hid (BlkAt.keep K0r.out N10.out)
          have HSM := Lib.hid (Same_any VJ VJ (VC.val ⟨yk, yn, yt, ya, yl, yc, yb, ym, ye⟩) (VC.val ⟨zk, zn, zt, za, zl, zc, zb, zm, ze⟩) w10 (bareA VY10.out) (bareA VZ.out))
          rw [sameV_self] at HSM
          have W10 := Lib.hid hw10
          have ece : (ec != ec) = false := by simp
          obtain ⟨m0, m1, mf⟩ := b2 K10.out
          obtain ⟨y0, y1, y2, y3, y4, yf⟩ := b5 KY10.out
          obtain ⟨z0, z1, z2, z3, z4, zf⟩ := b5 KZ.out
          rw [W10.out] at m0 m1 mf y0 y1 y2 y3 y4 yf z0 z1 z2 z3 z4 zf
          clear hb9 hb10 hw10 hv9
          go_wp2_with fail
          rw [← W10.out]
          refine HSM.out.mono ?_
          rintro e w11 ⟨rfl, hb11⟩
          have N11 := Lib.hid (below_more N10.out hb11)
          obtain ⟨m0, m1, mf⟩ := b2 (BlkAt.keep K10.out hb11)
          clear hb11 HSM y0 y1 y2 y3 y4 yf z0 z1 z2 z3 z4 zf
          go_wp2_with fail
          refine (HFO.out _ (Mr.out.keep N11.out)).mono ?_
          rintro e w12 ⟨hb12, lf, lg', gs12, rfl, -, -, -, hw12⟩
          have N12 := Lib.hid (below_more N11.out hb12)
          have HS12 := Lib.hid (same25Xs_any F F _ _ w12 (hw12.imp fun p u hu => hid_bare hu) (HWS.out.keep N12.out))
          rw [decide_eq_true rfl] at HS12
          clear hb12 hw12
          go_wp2_with fail
          refine HS12.out.mono ?_
          rintro e w13 ⟨rfl, hb13⟩
          have N13 := Lib.hid (below_more N12.out hb13)
          have B13 := Lib.hid (below_more BW.out N13.out)
          clear hb13 HS12 HWS
          cases mb with
          | false =>
            obtain rfl : (3 : Int) = ec := HEC.out
            go_wp2_with fail
            go_ret
            exact ⟨rfl, B13.out⟩
          | true =>
            obtain rfl : (0 : Int) = ec := HEC.out
            obtain rfl : chartJ M = VJ := HVJ.out
            have KY13 := Lib.hid (BlkAt.keep KYr.out N13.out)
            have K13 := Lib.hid (BlkAt.keep K0r.out N13.out)
            have VP := Lib.hid (valOf_pure VYr.out N13.out)
            obtain ⟨m0, m1, mf⟩ := b2 K13.out
            obtain ⟨y0, y1, y2, y3, y4, yf⟩ := b5 KY13.out
            have hn24 : n2 ≤ 4000 := by rw [← HN2.out]; exact HFW.out.2.1
            have hle : 1 ≤ n1 ∧ M.repos.length ≤ 1000000 ∧ M.maps.length ≤ 1000000 := by
              obtain ⟨q1, q2, q3, -⟩ := mayM_parts HMB.out
              rw [HNR1.out] at q1
              exact ⟨q1, by omega, by omega⟩
            have HOF := Lib.hid (fun Y (hY : ValAt (pureW Y) (chartJ M) (VC.val ⟨yk, yn, yt, ya, yl, yc, yb, ym, ye⟩)) => (show Calls _ _ _ _ _ from by
              have h1 := cOf_any (chartJ M) ⟨yk, yn, yt, ya, yl, yc, yb, ym, ye⟩ Y hY
              rw [chart_back HMB.out] at h1
              exact h1.mono fun e w' hp => Of_own hp hle.2.1 hle.2.2))
            rw [HNR1.out, HN2.out] at HOF
            have hs13 : w8.heap.size ≤ w13.heap.size := by have := N13.out.size; omega
            clear VZ KZ KYr K0r KY10 K10 VY10 VYr N10 N11 N12 W10
            go_wp2_with fail
            refine (HOF.out _ VP.out).mono ?_
            rintro e w14 ⟨hb14, A1, C1, A2, C2, rsA, gsA, Bm, rfl, hBm, hrl, hgl2, hgxA, hro, hrlt, hmo, -, -⟩
            have HGX := Lib.hid hgxA
            clear hgxA
            have N14 := Lib.hid hb14
            have s14 := hb14.size
            obtain ⟨w15, hw15⟩ : ∃ y, y = w14.alloc (.cells #[.slice A1 n1 C1, .slice A2 n2 C2] 32) := ⟨_, rfl⟩
            have hb15 : Below w14.heap.size w14 w15 := by rw [hw15]; exact bel_alloc (Below.refl _ _) _
            have KA15 : Hid (BlkAt w15 w14.heap.size 32 #[.slice A1 n1 C1, .slice A2 n2 C2]) := by rw [hw15]; exact blkAt_new w14 _ _
            have e15 : w15.heap.size = w14.heap.size + 1 := by rw [hw15, size_al]
            have N15 := Lib.hid (below_more hb14 hb15)
            have W15 := Lib.hid hw15
            have HRO := Lib.hid hro
            have HMO2 := Lib.hid hmo
            have HLT := Lib.hid hrlt
            obtain ⟨y0, y1, y2, y3, y4, yf⟩ := b5 (BlkAt.keep KY13.out N15.out)
            rw [W15.out] at y0 y1 y2 y3 y4 yf
            obtain ⟨ab, hab⟩ : ∃ z, w14.heap.size = z := ⟨_, rfl⟩
            have HAB := Lib.hid hab
            clear hb14 hw15 hro hrlt hmo hab
            go_wp2_with fail
            rw [← W15.out, HAB.out]
            rw [HAB.out] at KA15 s14 e15
            refine (HOF.out _ (VP.out.imp (pure_keep N15.out))).mono ?_
            rintro e w16 ⟨hb16, E1, D1, E2, D2, rsB, gsB, Bm2, rfl, -, -, -, -, -, -, -, hrB, hmB⟩
            have s16 := hb16.size
            obtain ⟨w17, hw17⟩ : ∃ y, y = w16.alloc (.cells #[.slice E1 n1 D1, .slice E2 n2 D2] 32) := ⟨_, rfl⟩
            have hb17 : Below w16.heap.size w16 w17 := by rw [hw17]; exact bel_alloc (Below.refl _ _) _
            have KB17 : Hid (BlkAt w17 w16.heap.size 32 #[.slice E1 n1 D1, .slice E2 n2 D2]) := by rw [hw17]; exact blkAt_new w16 _ _
            have N17 := Lib.hid (below_more hb16 hb17)
            have hRB := Lib.hid (hrB.imp (hid_imp (Q := offB w15.heap.size none) (w' := w17) fun k hk hP => ⟨hP, hb17.block k hk⟩))
            have hMB := Lib.hid (hmB.imp (hid_imp (Q := offB w15.heap.size none) (w' := w17) fun k hk hP => ⟨hP, hb17.block k hk⟩))
            have W17 := Lib.hid hw17
            have KA17 := Lib.hid (BlkAt.keep KA15.out N17.out)
            have B17 := Lib.hid (below_more B13.out (below_more N15.out N17.out))
            have HSA := Lib.hid (SpI.start (w := w) HMO2.out B17.out (below_more (show Below w14.heap.size w14 w15 from by rw [W15.out]; exact bel_alloc (Below.refl _ _) _) N17.out))
            obtain ⟨g0, s0, T0, cs0, hA1, hB0, hg0, c0, hbk0⟩ := (HRO.out).first hrl.symm (by omega)
            subst hA1
            have hb147 : Below w14.heap.size w14 w17 := below_more (show Below w14.heap.size w14 w15 from by rw [W15.out]; exact bel_alloc (Below.refl _ _) _) N17.out
            have c0' := cell_keep hb147 c0
            have f0 := (BlkAt.keep hbk0 hb147).free
            have hg0m : g0 < Bm := HLT.out g0 rfl
            obtain ⟨x0, x1, xf⟩ := b2 KA17.out
            have hn1e : ((n1 : Int) == 0) = false := by rw [beq_eq_false_iff_ne]; omega
            have hn1p : (0 : Int) < (n1 : Int) := by omega
            have hn1q : 0 < n1 := by omega
            have hg0a : g0 ≠ ab := by have := HAB.out; omega
            have HSL := Lib.hid (HSA.out.low (b := g0) (by have := B13.out.size; omega) hg0m 0 ⟨#[115, 112, 111, 105, 108, 116]⟩)
            have KAL : Hid (BlkAt (w17.setCell ⟨g0, 0, none⟩ (.string ⟨#[115, 112, 111, 105, 108, 116]⟩)) ab 32 #[.slice (some ⟨g0, 0, none⟩) n1 C1, .slice A2 n2 C2]) := BlkAt.set_far KA17.out hg0a 0 _
            have KBL : Hid (BlkAt (w17.setCell ⟨g0, 0, none⟩ (.string ⟨#[115, 112, 111, 105, 108, 116]⟩)) w16.heap.size 32 #[.slice E1 n1 D1, .slice E2 n2 D2]) := BlkAt.set_far KB17.out (by have := HAB.out; omega) 0 _
            have K0L : Hid (BlkAt (w17.setCell ⟨g0, 0, none⟩ (.string ⟨#[115, 112, 111, 105, 108, 116]⟩)) w.heap.size 32 #[.slice a1 n1 c1, .slice a2 n2 c2]) := BlkAt.set_far (BlkAt.keep K13.out (below_more N15.out N17.out)) (by have := B13.out.size; have := K13.out.lt; omega) 0 _
            have HHK : Hid (∀ k, w15.heap.size ≤ k → (w17.setCell ⟨g0, 0, none⟩ (.string ⟨#[115, 112, 111, 105, 108, 116]⟩)).heap[k]? = w17.heap[k]?) := fun k hk => Below.heap_setCell _ _ _ _ (by show k ≠ g0; have := HAB.out; omega)
            rw [W17.out] at x0 x1 xf c0' f0
            have hB13s := B13.out.size
            clear hb16 hb17 hw17 hrB hmB hb147 c0 hbk0 HRO HLT HMO2 y0 y1 y2 y3 y4 yf HSA KA15 KA17 KB17 HOF VP
            obtain ⟨bb, hbb⟩ : ∃ z, w16.heap.size = z := ⟨_, rfl⟩
            have HBB := Lib.hid hbb
            clear hbb
            go_wp2_with fail
            rw [← W17.out, HBB.out]
            rw [HBB.out] at KBL s16
            obtain ⟨wL, hwL⟩ : ∃ z, w17.setCell ⟨g0, 0, none⟩ (.string ⟨#[115, 112, 111, 105, 108, 116]⟩) = z := ⟨_, rfl⟩
            rw [hwL] at HSL KAL KBL K0L HHK ⊢
            clear hwL c0' f0 x0 x1 xf
            have HAB2 := HAB.out
            have HBB2 : w15.heap.size ≤ bb := s16
            have hBm2 : w.heap.size < Bm := by have := K0L.out.lt; omega
            have HAE : Hid (w14.heap.size ≤ ab) := Nat.le_of_eq HAB2
            have HBE : Hid (w14.heap.size ≤ bb) := by show _ ≤ _; omega
            have HCE : Hid (w14.heap.size ≤ w15.heap.size) := by show _ ≤ _; omega
            clear HAB2 HAB HBB
            have HGA : Hid (∀ g ∈ gsA, g.x.paths.length ≤ 4000 ∧ g.x.repos.length ≤ 4000) := fun g hg => HFW.out.2.2.2 g.x (by rw [← HGX.out]; exact List.mem_map.2 ⟨g, hg, rfl⟩)
            go_wp2_with fail
            go_loopw [18] (fun i wr4 => ∃ j : Nat, j ≤ n2 ∧ i = .int .i64 j ∧ Hid (SpI w wL wr4 Bm w14.heap.size (.slice A2 n2 C2) gsA)) (fun i _ => n2 - (intOf i).toNat)
            case atStart => exact ⟨0, by omega, rfl, HSL⟩
            case round =>
              obtain ⟨j, hj, rfl, HSP⟩ := hrel
              obtain ⟨x0, x1, xf⟩ := b2 (show BlkAt _ ab 32 #[.slice (some ⟨g0, 0, none⟩) n1 C1, .slice A2 n2 C2] from (HSP.out.2.2.1 ab (Or.inr HAE.out)).trans KAL.out)
              by_cases hjn : j < n2
              · obtain ⟨g, hg⟩ : ∃ s, gsA[j]? = some s := ⟨_, List.getElem?_eq_getElem (by rw [hgl2]; exact hjn)⟩
                have HG := Lib.hid hg
                obtain ⟨-, q4b⟩ := HGA.out g (List.mem_of_getElem? hg)
                obtain ⟨gb, hla, p0, p1⟩ := HSP.out.cells hg
                obtain ⟨nr, hnr⟩ : ∃ z, g.x.repos.length = z := ⟨_, rfl⟩
                have HNR := Lib.hid hnr
                rw [hnr] at p1 q4b
                subst hla
                have i0' : (0 : Int) ≤ (j : Int) := by omega
                have i1' : (j : Int) < (n2 : Int) := by omega
                clear hg hnr
                go_wp2_with fail
                go_loopw [19] (fun i wr2 => ∃ k : Nat, k ≤ nr ∧ i = .int .i64 k ∧ Hid (SpI w wL wr2 Bm w14.heap.size (.slice (some ⟨gb, 0, none⟩) n2 C2) gsA)) (fun i _ => nr - (intOf i).toNat)
                case atStart => exact ⟨0, by omega, rfl, HSP⟩
                case round =>
                  obtain ⟨f, hf, rfl, HSR⟩ := hrel
                  obtain ⟨gb', hla', p0, p1⟩ := HSR.out.cells HG.out
                  obtain rfl : gb = gb' := by simpa using hla'
                  rw [HNR.out] at p1
                  obtain ⟨x0, x1, xf⟩ := b2 (show BlkAt _ ab 32 #[.slice (some ⟨g0, 0, none⟩) n1 C1, .slice (some ⟨gb, 0, none⟩) n2 C2] from (HSR.out.2.2.1 ab (Or.inr HAE.out)).trans KAL.out)
                  by_cases hfn : f < nr
                  · obtain ⟨b, o, s, ea, h1, h2, h3, y0, T, cs, hbk⟩ := (HSR.out.2.2.2.2 g (List.mem_of_getElem? HG.out)).2 f (by rw [HNR.out]; exact hfn)
                    rw [ea] at p1
                    have k0 : (0 : Int) ≤ (f : Int) := by omega
                    have k1 : (f : Int) < (nr : Int) := by omega
                    have HQ2 := Lib.hid (HSR.out.set (Nat.le_of_lt hBm2) h1 h2 h3 (o + f) ⟨#[115, 112, 111, 105, 108, 116]⟩)
                    have yf := hbk.free
                    clear h1 h2 h3 ea hla' hbk
                    go_wp2_with fail
                    exact ⟨⟨f + 1, by omega, by go_num, HQ2⟩, by simp [intOf]; omega⟩
                  · obtain rfl : f = nr := by omega
                    have k1 : ¬ (f : Int) < (f : Int) := by omega
                    clear hla'
                    go_wp2_with fail
                    exact ⟨⟨j + 1, by omega, by go_num, HSR⟩, by simp [intOf]; omega⟩
              · obtain rfl : j = n2 := by omega
                have i1' : ¬ (j : Int) < (j : Int) := by omega
                have KBr : Hid (BlkAt wr bb 32 #[.slice E1 n1 D1, .slice E2 j D2]) := (HSP.out.2.2.1 bb (Or.inr HBE.out)).trans KBL.out
                have K0q : Hid (BlkAt wr w.heap.size 32 #[.slice a1 n1 c1, .slice a2 j c2]) := (HSP.out.2.2.1 _ (Or.inl hBm2)).trans K0L.out
                have hk4 : ∀ k, w15.heap.size ≤ k → wr.heap[k]? = w17.heap[k]? := fun k hk => (HSP.out.2.2.1 k (Or.inr (Nat.le_trans HCE.out hk))).trans (HHK.out k hk)
                have hMb : MapAt wr (.agg #[.slice E1 n1 D1, .slice E2 j D2]) M := ⟨_, _, rfl, ReposAt.carryS hRB.out hk4, MapsAt.carryS hMB.out hk4⟩
                have HSS := Lib.hid (same25_any M M _ _ wr hMb (HMH.out.keep HSP.out.1))
                rw [decide_eq_true rfl] at HSS
                have BE := Lib.hid HSP.out.1
                obtain ⟨e0, e1, ef⟩ := b2 KBr.out
                obtain ⟨m0, m1, mf⟩ := b2 K0q.out
                clear hk4 hMb HSP KBr K0q
                go_wp2_with fail
                refine HSS.out.mono ?_
                rintro e wZ ⟨rfl, hbZ⟩
                have BZ := Lib.hid (below_more BE.out hbZ)
                clear hbZ
                go_wp2_with fail
                go_ret
                exact ⟨rfl, BZ.out⟩
end Go.Proofs.YtopepakencpegaaGreatDoor
