/-
  The walk of the law ReadObjects.
-/
import Derived.Test.YtngebebhaehmnaaGreatDoorReadAwake
import Derived.Test.YtngebebhaehmnaaGreatDoorReadFits
import Derived.Test.YtngebebhaehmnaaGreatDoorReadQuo
import Derived.Test.YtngebebhaehmnaaGreatDoorReadSome
import Derived.IntWalk
import Derived.Deep.RegionWith
import Derived.Deep.DeepCutAuto
namespace Go.Proofs.YtngebebhaehmnaaGreatDoor
open Go.RowKit

theorem nm_flip {a b : ByteArray} (h : a ≠ b) : nmLt b a = !nmLt a b := by
  rw [nmLt_eq, nmLt_eq]
  cases h1 : Op.bytesLess a.data.toList b.data.toList with
  | true => exact bl_asymm h1
  | false =>
    cases h2 : Op.bytesLess b.data.toList a.data.toList with
    | true => rfl
    | false => exact absurd (bytes_ext (bl_total _ _ h1 h2)) h
theorem pair_flip {a b : ByteArray} (h : a ≠ b) (V W : JV) : pairV b a W V = pairV a b V W := by
  unfold pairV
  rw [nm_flip h]
  cases nmLt a b <;> rfl
def objT (p s q t : ByteArray) : ByteArray := ⟨#[123]⟩ ++ p ++ ⟨#[58]⟩ ++ s ++ ⟨#[44]⟩ ++ q ++ ⟨#[58]⟩ ++ t ++ ⟨#[125]⟩
theorem objT_list (p s q t : ByteArray) : (objT p s q t).data.toList = 123 :: (p.data.toList ++ 58 :: (s.data.toList ++ 44 :: (q.data.toList ++ 58 :: (t.data.toList ++ [125])))) := by
  unfold objT
  simp only [ByteArray.data_append, Array.toList_append]
  simp
theorem objT_size (p s q t : ByteArray) : (objT p s q t).size = p.size + s.size + q.size + t.size + 5 := by
  unfold objT
  simp only [ByteArray.size_append]
  show 1 + p.size + 1 + s.size + 1 + q.size + 1 + t.size + 1 = _
  omega
/-- An object of two names, laid out. -/
theorem two_want {w : World} {a b : ByteArray} {V U : JV} {n r : Nat} {c0 c1 c2 c3 c4 d0 d1 d2 d3 d4 : Value} (ha : a.size ≤ 4096) (hb : b.size ≤ 4096) (hn : BlkAt w n 9 #[.string a, .string b]) (hr : BlkAt w r 26 #[c0, c1, c2, c3, c4, d0, d1, d2, d3, d4])
    (hV : ValAt w V (.agg #[c0, c1, c2, c3, c4])) (hU : ValAt w U (.agg #[d0, d1, d2, d3, d4])) : ValAt w (.mk 5 0 ⟨#[]⟩ [a, b] [V, U]) (.agg #[.int .u8 5, .int .i64 0, .string ⟨#[]⟩, .slice (some ⟨n, 0, none⟩) 2 2, .slice (some ⟨r, 0, none⟩) 2 2]) := by
  refine valAt_mk (by decide) (by decide) (by decide) (by decide) (by decide) ?_ (itemsAt_len (by simp) (rowAt_cons hV (hr.cell 0) (hr.cell 1) (hr.cell 2) (hr.cell 3) (hr.cell 4) (rowAt_cons hU (hr.cell 5) (hr.cell 6) (hr.cell 7) (hr.cell 8) (hr.cell 9) (rowAt_nil _ _ _))))
  refine strsAt_of (by simp) (fun s hs => ?_) (fun i s hi => ?_) rfl
  · unfold maxLen
    simp only [List.mem_cons, List.not_mem_nil, or_false] at hs
    rcases hs with rfl | rfl <;> omega
  · rw [Nat.zero_add]
    match i, hi with
    | 0, hi => simp only [List.getElem?_cons_zero, Option.some.injEq] at hi; rw [← hi]; exact hn.cell 0
    | 1, hi => simp only [List.getElem?_cons_succ, List.getElem?_cons_zero, Option.some.injEq] at hi; rw [← hi]; exact hn.cell 1
    | n + 2, hi => simp at hi
set_option maxRecDepth 100000 in
set_option maxHeartbeats 8000000 in
theorem readObjects_walk (s t a b : ByteArray) (w : World) (w0 : s.size ≤ maxLen) (w1 : t.size ≤ maxLen) (w2 : a.size ≤ maxLen) (w3 : b.size ≤ maxLen) (henv : NumEnv w) :
    Calls Tryz.prog 8 #[.string s, .string t, .string a, .string b] w fun e w' => e = .returned (.bool true) ∧ Below w.heap.size w w' := by
  unfold maxLen at w0 w1 w2 w3
  by_cases hl1 : 10000 < s.size
  · have hd1 : decide (10000 < (s.size : Int)) = true := by simp; omega
    go_enter Tryz.func8, Tryz.ntmps8
    go_wp2_with fail
    refine (awake9_any _ henv).mono ?_
    rintro e w3 ⟨rfl, hb3⟩
    go_wp2_with fail
    go_ret
    exact ⟨rfl, hb3⟩
  have hd1 : decide (10000 < (s.size : Int)) = false := by simp; omega
  by_cases hl2 : 10000 < t.size
  · have hd2 : decide (10000 < (t.size : Int)) = true := by simp; omega
    go_enter Tryz.func8, Tryz.ntmps8
    go_wp2_with fail
    refine (awake9_any _ henv).mono ?_
    rintro e w3 ⟨rfl, hb3⟩
    go_wp2_with fail
    go_ret
    exact ⟨rfl, hb3⟩
  have hd2 : decide (10000 < (t.size : Int)) = false := by simp; omega
  by_cases hl3 : 4096 < a.size
  · have hd3 : decide (4096 < (a.size : Int)) = true := by simp; omega
    go_enter Tryz.func8, Tryz.ntmps8
    go_wp2_with fail
    refine (awake9_any _ henv).mono ?_
    rintro e w3 ⟨rfl, hb3⟩
    go_wp2_with fail
    go_ret
    exact ⟨rfl, hb3⟩
  have hd3 : decide (4096 < (a.size : Int)) = false := by simp; omega
  by_cases hl4 : 4096 < b.size
  · have hd4 : decide (4096 < (b.size : Int)) = true := by simp; omega
    go_enter Tryz.func8, Tryz.ntmps8
    go_wp2_with fail
    refine (awake9_any _ henv).mono ?_
    rintro e w3 ⟨rfl, hb3⟩
    go_wp2_with fail
    go_ret
    exact ⟨rfl, hb3⟩
  have hd4 : decide (4096 < (b.size : Int)) = false := by simp; omega
  obtain ⟨la, hla⟩ : ∃ x, lowL a.data.toList = x := ⟨_, rfl⟩
  obtain ⟨lb, hlb⟩ : ∃ x, lowL b.data.toList = x := ⟨_, rfl⟩
  have HLA := Lib.hid (fun W => low9_any a W (by omega))
  have HLB := Lib.hid (fun W => low9_any b W (by omega))
  rw [hla] at HLA
  rw [hlb] at HLB
  cases la with
  | true =>
    go_enter Tryz.func8, Tryz.ntmps8
    go_wp2_with fail
    refine (HLA.out _).mono ?_
    rintro e w3 ⟨rfl, hb3⟩
    go_wp2_with fail
    refine (awake9_any _ (henv.below hb3)).mono ?_
    rintro e w4 ⟨rfl, hb4⟩
    go_wp2_with fail
    go_ret
    exact ⟨rfl, below_more hb3 hb4⟩
  | false =>
  cases lb with
  | true =>
    go_enter Tryz.func8, Tryz.ntmps8
    go_wp2_with fail
    refine (HLA.out _).mono ?_
    rintro e w3 ⟨rfl, hb3⟩
    go_wp2_with fail
    refine (HLB.out _).mono ?_
    rintro e w4 ⟨rfl, hb4⟩
    go_wp2_with fail
    refine (awake9_any _ (henv.below (below_more hb3 hb4))).mono ?_
    rintro e w5 ⟨rfl, hb5⟩
    go_wp2_with fail
    go_ret
    exact ⟨rfl, below_more (below_more hb3 hb4) hb5⟩
  | false =>
  have HNA := Lib.hid (noLow_of hla)
  have HNB := Lib.hid (noLow_of hlb)
  clear hla hlb
  have HR1 := Lib.hid (fun W hE => read_some s W (by omega) hE)
  have HR2 := Lib.hid (fun W hE => read_some t W (by omega) hE)
  have HQ1 := Lib.hid (fun W => quote_some a W (by omega))
  have HQ2 := Lib.hid (fun W => quote_some b W (by omega))
  go_enter Tryz.func8, Tryz.ntmps8
  go_wp2_with fail
  refine (HLA.out _).mono ?_
  rintro e w3 ⟨rfl, hb3⟩
  go_wp2_with fail
  refine (HLB.out _).mono ?_
  rintro e w4 ⟨rfl, hb4⟩
  go_wp2_with fail
  refine (awake9_any _ (henv.below (below_more hb3 hb4))).mono ?_
  rintro e w5 ⟨rfl, hb5⟩
  have hB5 := below_more (below_more hb3 hb4) hb5
  clear hb3 hb4 hb5
  go_wp2_with fail
  refine (HR1.out _ (henv.below hB5)).mono ?_
  rintro e w6 ⟨⟨xk, xn, xt, xa, xl, xc, xb, xm, xe⟩, p1, e1, rfl, hb6, hok1, -⟩
  have HOK1 := Lib.hid hok1
  clear hok1
  simp only [VC.val]
  go_wp2_with fail
  have hba := bel_alloc hb6 (.cells #[.int .u8 xk, .int .i64 xn, .string xt, .slice xa xl xc, .slice xb xm xe] 26)
  have hB7 := below_more hB5 hba
  have HK7 : Hid (BlkAt (w6.alloc (.cells #[.int .u8 xk, .int .i64 xn, .string xt, .slice xa xl xc, .slice xb xm xe] 26)) w6.heap.size 26 #[.int .u8 xk, .int .i64 xn, .string xt, .slice xa xl xc, .slice xb xm xe]) := blkAt_new w6 _ _
  have HO7 : Hid (e1 = 0 → ∃ V ms c, readV s.data.toList = .ok V ms c ∧ ValAt (w6.alloc (.cells #[.int .u8 xk, .int .i64 xn, .string xt, .slice xa xl xc, .slice xb xm xe] 26)) V (VC.val ⟨xk, xn, xt, xa, xl, xc, xb, xm, xe⟩)) := fun h0 => by
    obtain ⟨V, ms, c, h1, h2⟩ := HOK1.out h0
    exact ⟨V, ms, c, h1, h2.bare.keep (bel_alloc (Below.refl _ _) _)⟩
  clear HOK1 hba hb6 hB5
  generalize w6.alloc (.cells #[.int .u8 xk, .int .i64 xn, .string xt, .slice xa xl xc, .slice xb xm xe] 26) = w7 at *
  generalize w6.heap.size = vb at *
  refine (HR2.out _ (henv.below hB7)).mono ?_
  rintro e w8 ⟨⟨yk, yn, yt, ya, yl, yc, yb, ym, ye⟩, p2, e2, rfl, hb8, hok2, -⟩
  have HOK2 := Lib.hid hok2
  clear hok2
  simp only [VC.val]
  go_wp2_with fail
  have hba := bel_alloc hb8 (.cells #[.int .u8 yk, .int .i64 yn, .string yt, .slice ya yl yc, .slice yb ym ye] 26)
  have hB9 := below_more hB7 hba
  have HK9 := Lib.hid (BlkAt.keep HK7.out hba)
  have HL9 : Hid (BlkAt (w8.alloc (.cells #[.int .u8 yk, .int .i64 yn, .string yt, .slice ya yl yc, .slice yb ym ye] 26)) w8.heap.size 26 #[.int .u8 yk, .int .i64 yn, .string yt, .slice ya yl yc, .slice yb ym ye]) := blkAt_new w8 _ _
  have HO9 : Hid (e1 = 0 → ∃ V ms c, readV s.data.toList = .ok V ms c ∧ ValAt (w8.alloc (.cells #[.int .u8 yk, .int .i64 yn, .string yt, .slice ya yl yc, .slice yb ym ye] 26)) V (VC.val ⟨xk, xn, xt, xa, xl, xc, xb, xm, xe⟩)) := fun h0 => by
    obtain ⟨V, ms, c, h1, h2⟩ := HO7.out h0
    exact ⟨V, ms, c, h1, h2.keep hba⟩
  have HP9 : Hid (e2 = 0 → ∃ V ms c, readV t.data.toList = .ok V ms c ∧ ValAt (w8.alloc (.cells #[.int .u8 yk, .int .i64 yn, .string yt, .slice ya yl yc, .slice yb ym ye] 26)) V (VC.val ⟨yk, yn, yt, ya, yl, yc, yb, ym, ye⟩)) := fun h0 => by
    obtain ⟨V, ms, c, h1, h2⟩ := HOK2.out h0
    exact ⟨V, ms, c, h1, h2.bare.keep (bel_alloc (Below.refl _ _) _)⟩
  clear HOK2 hba hb8 hB7 HO7 HK7
  generalize w8.alloc (.cells #[.int .u8 yk, .int .i64 yn, .string yt, .slice ya yl yc, .slice yb ym ye] 26) = w9 at *
  generalize w8.heap.size = ub at *
  refine (HQ1.out _).mono ?_
  rintro e w10 ⟨p, g1, rfl, hb10, hq1⟩
  have HW1 := Lib.hid hq1
  clear hq1
  go_wp2_with fail
  refine (HQ2.out _).mono ?_
  rintro e w11 ⟨q, g2, rfl, hb11, hq2⟩
  have HW2 := Lib.hid hq2
  clear hq2
  have hbb := below_more hb10 hb11
  have hB11 := below_more hB9 hbb
  by_cases h1 : e1 = 0
  case neg =>
    have f1 : (e1 != 0) = true := by rw [bne_iff_ne]; exact h1
    go_wp2_with fail
    go_ret
    exact ⟨rfl, hB11⟩
  have f1 : (e1 != 0) = false := by rw [h1]; rfl
  by_cases h2 : e2 = 0
  case neg =>
    have f2 : (e2 != 0) = true := by rw [bne_iff_ne]; exact h2
    go_wp2_with fail
    go_ret
    exact ⟨rfl, hB11⟩
  have f2 : (e2 != 0) = false := by rw [h2]; rfl
  by_cases h3 : g1 = 0
  case neg =>
    have f3 : (g1 != 0) = true := by rw [bne_iff_ne]; exact h3
    go_wp2_with fail
    go_ret
    exact ⟨rfl, hB11⟩
  have f3 : (g1 != 0) = false := by rw [h3]; rfl
  by_cases h4 : g2 = 0
  case neg =>
    have f4 : (g2 != 0) = true := by rw [bne_iff_ne]; exact h4
    go_wp2_with fail
    go_ret
    exact ⟨rfl, hB11⟩
  have f4 : (g2 != 0) = false := by rw [h4]; rfl
  obtain ⟨V, ms1, c1, hr1, hV9⟩ := HO9.out h1
  obtain ⟨U, ms2, c2, hr2, hU9⟩ := HP9.out h2
  obtain ⟨hwa, hp⟩ := HW1.out h3
  obtain ⟨hwb, hq⟩ := HW2.out h4
  have HV11 := Lib.hid (hV9.keep hbb)
  have HU11 := Lib.hid (hU9.keep hbb)
  have HK11 := Lib.hid (BlkAt.keep HK9.out hbb)
  have HL11 := Lib.hid (BlkAt.keep HL9.out hbb)
  obtain ⟨-, dV, cV⟩ := (mayB_iff V).1 (read_may hr1).1
  obtain ⟨-, dU, cU⟩ := (mayB_iff U).1 (read_may hr2).1
  obtain ⟨m, hm⟩ : ∃ m, decide (8192 < countV V + countV U + 1) = m := ⟨_, rfl⟩
  obtain ⟨d1, hd1'⟩ : ∃ m, decide (12 ≤ depthV V) = m := ⟨_, rfl⟩
  obtain ⟨d2, hd2'⟩ : ∃ m, decide (12 ≤ depthV U) = m := ⟨_, rfl⟩
  have HF := Lib.hid (fun w' v u (h1 : ValAt w' V v) (h2 : ValAt w' U u) => fits_any V U v u w' h1 h2 cV cU m d1 d2 (Lib.hid hm) (Lib.hid hd1') (Lib.hid hd2'))
  obtain ⟨dd, hdd⟩ : ∃ x, (d1 || d2) = x := ⟨_, rfl⟩
  rw [hdd] at HF
  obtain ⟨k0, k1, k2, k3, k4, -⟩ := blk5 HK11.out
  obtain ⟨l0, l1, l2, l3, l4, -⟩ := blk5 HL11.out
  have hsp : p.data.toList = quoteL a.data.toList := by rw [hp]
  have hsq : q.data.toList = quoteL b.data.toList := by rw [hq]
  have hzp : p.size ≤ 8194 := by rw [← size_len, hsp]; exact quote_len hwa
  have hzq : q.size ≤ 8194 := by rw [← size_len, hsq]; exact quote_len hwb
  clear HO9 HP9 HW1 HW2 HK9 HL9 hV9 hU9 h1 h2 h3 h4 hp hq hB9 hb10 hb11
  have HDAT : Hid (m = false → dd = false → ((a ≠ b → ∃ ms c, readV (objT p s q t).data.toList = .ok (pairV a b V U) ms c) ∧ (a = b → readV (objT p s q t).data.toList = .bad (3 + p.size + s.size) 7)) ∧ (a ≠ b → ∃ ms c, readV (objT q t p s).data.toList = .ok (pairV a b V U) ms c)) := fun g1 g2 => by
    have hd' : depthV V ≤ 11 ∧ depthV U ≤ 11 := by
      subst hd1' hd2'
      rw [g2] at hdd
      simp only [Bool.or_eq_false_iff, decide_eq_false_iff_not] at hdd
      omega
    have hc' : countV V + countV U + 1 ≤ 8192 := by
      rw [g1] at hm
      simp only [decide_eq_false_iff_not] at hm
      omega
    have o1 := objects_plain hr1 hr2 hwa HNA.out hwb HNB.out hd' hc' (by rw [size_len, size_len, ← hsp, ← hsq, size_len, size_len]; omega)
    have o2 := objects_plain hr2 hr1 hwb HNB.out hwa HNA.out ⟨hd'.2, hd'.1⟩ (by omega) (by rw [size_len, size_len, ← hsp, ← hsq, size_len, size_len]; omega)
    rw [← hsp, ← hsq, ← objT_list, size_len, size_len] at o1
    rw [← hsp, ← hsq, ← objT_list] at o2
    refine ⟨o1, fun hne => ?_⟩
    obtain ⟨ms, c, h⟩ := o2.1 (Ne.symm hne)
    rw [pair_flip hne] at h
    exact ⟨ms, c, h⟩
  clear hm hd1' hd2' hdd hr1 hr2 hsp hsq dV cV dU cU hwa hwb
  go_wp2_with fail
  refine (HF.out _ _ _ HV11.out HU11.out).mono ?_
  rintro e w12 ⟨rfl, hb12⟩
  have hB12 := below_more hB11 hb12
  cases m with
  | true =>
    go_wp2_with fail
    go_ret
    exact ⟨rfl, hB12⟩
  | false =>
  cases dd with
  | true =>
    go_wp2_with fail
    go_ret
    exact ⟨rfl, hB12⟩
  | false =>
  obtain ⟨o1, o2⟩ := HDAT.out rfl rfl
  clear HDAT
  have hsO : (objT p s q t).size ≤ 9223372036854775807 := by rw [objT_size]; omega
  have hsP : (objT q t p s).size ≤ 9223372036854775807 := by rw [objT_size]; omega
  obtain ⟨k0, k1, k2, k3, k4, -⟩ := blk5 (BlkAt.keep HK11.out hb12)
  obtain ⟨l0, l1, l2, l3, l4, -⟩ := blk5 (BlkAt.keep HL11.out hb12)
  have HV12 := Lib.hid (HV11.out.keep hb12)
  have HU12 := Lib.hid (HU11.out.keep hb12)
  have HK12 := Lib.hid (BlkAt.keep HK11.out hb12)
  have HL12 := Lib.hid (BlkAt.keep HL11.out hb12)
  clear HV11 HU11 HK11 HL11
  by_cases hab : a = b
  · have HR3 := Lib.hid (fun W hE => read_any (objT p s q t) W hsO hE _ (Lib.hid (o1.2 hab)))
    have hbe : (a.toList == b.toList) = true := by rw [hab]; simp
    unfold objT at HR3
    clear o1 o2
    go_wp2_with fail
    refine (HR3.out _ (henv.below hB12)).mono ?_
    rintro e w13 ⟨hb13, rfl, -⟩
    have hN : ((3 + p.size + s.size : Nat) : Int) = 3 + (p.size : Int) + (s.size : Int) := by push_cast; rfl
    simp only [zeroV]
    rw [hN]
    go_wp2_with fail
    go_ret
    exact ⟨by simp, bel_alloc (below_more hB12 hb13) _⟩
  · have hbe : (a.toList == b.toList) = false := by
      rw [beq_eq_false_iff_ne]
      intro h
      rw [toList_data, toList_data] at h
      exact hab (bytes_ext h)
    obtain ⟨ms3, c3, hr3⟩ := o1.1 hab
    obtain ⟨ms4, c4, hr4⟩ := o2 hab
    have HR3 := Lib.hid (fun W hE => read_any (objT p s q t) W hsO hE _ (Lib.hid hr3))
    have HR4 := Lib.hid (fun W hE => read_any (objT q t p s) W hsP hE _ (Lib.hid hr4))
    unfold objT at HR3 HR4
    clear o1 o2 hr3 hr4
    go_wp2_with fail
    refine (HR3.out _ (henv.below hB12)).mono ?_
    rintro e w13 ⟨hb13, ⟨zk, zn, zt, za, zl, zc, zb, zm, ze⟩, rfl, hnew13⟩
    simp only [VC.val]
    have hba := bel_alloc hb13 (.cells #[.int .u8 zk, .int .i64 zn, .string zt, .slice za zl zc, .slice zb zm ze] 26)
    have HZ : Hid (ValAt (w13.alloc (.cells #[.int .u8 zk, .int .i64 zn, .string zt, .slice za zl zc, .slice zb zm ze] 26)) (pairV a b V U) (VC.val ⟨zk, zn, zt, za, zl, zc, zb, zm, ze⟩)) := hnew13.bare.keep (bel_alloc (Below.refl _ _) _)
    have HM : Hid (BlkAt (w13.alloc (.cells #[.int .u8 zk, .int .i64 zn, .string zt, .slice za zl zc, .slice zb zm ze] 26)) w13.heap.size 26 #[.int .u8 zk, .int .i64 zn, .string zt, .slice za zl zc, .slice zb zm ze]) := blkAt_new w13 _ _
    have HV14 := Lib.hid (HV12.out.keep hba)
    have HU14 := Lib.hid (HU12.out.keep hba)
    have HK14 := Lib.hid (BlkAt.keep HK12.out hba)
    have HL14 := Lib.hid (BlkAt.keep HL12.out hba)
    have hB14 := below_more hB12 hba
    clear hnew13 hba
    go_wp2_with fail
    generalize w13.alloc (.cells #[.int .u8 zk, .int .i64 zn, .string zt, .slice za zl zc, .slice zb zm ze] 26) = w14 at *
    generalize w13.heap.size = zb0 at *
    refine (HR4.out _ (henv.below hB14)).mono ?_
    rintro e w15 ⟨hb15, ⟨uk, un, ut, ua, ul, uc, ub', um, ue⟩, rfl, hnew15⟩
    simp only [VC.val]
    have hba := bel_alloc hb15 (.cells #[.int .u8 uk, .int .i64 un, .string ut, .slice ua ul uc, .slice ub' um ue] 26)
    have HY : Hid (ValAt (w15.alloc (.cells #[.int .u8 uk, .int .i64 un, .string ut, .slice ua ul uc, .slice ub' um ue] 26)) (pairV a b V U) (VC.val ⟨uk, un, ut, ua, ul, uc, ub', um, ue⟩)) := hnew15.bare.keep (bel_alloc (Below.refl _ _) _)
    have HN : Hid (BlkAt (w15.alloc (.cells #[.int .u8 uk, .int .i64 un, .string ut, .slice ua ul uc, .slice ub' um ue] 26)) w15.heap.size 26 #[.int .u8 uk, .int .i64 un, .string ut, .slice ua ul uc, .slice ub' um ue]) := blkAt_new w15 _ _
    have HV16 := Lib.hid (HV14.out.keep hba)
    have HU16 := Lib.hid (HU14.out.keep hba)
    have HZ16 := Lib.hid (HZ.out.keep hba)
    have HK16 := Lib.hid (BlkAt.keep HK14.out hba)
    have HL16 := Lib.hid (BlkAt.keep HL14.out hba)
    have HM16 := Lib.hid (BlkAt.keep HM.out hba)
    have hB16 := below_more hB14 hba
    obtain ⟨k0, k1, k2, k3, k4, -⟩ := blk5 HK16.out
    obtain ⟨l0, l1, l2, l3, l4, -⟩ := blk5 HL16.out
    obtain ⟨m0, m1, m2, m3, m4, -⟩ := blk5 HM16.out
    obtain ⟨n0, n1, n2, n3, n4, -⟩ := blk5 HN.out
    clear hnew15 hba
    go_upto_region 16 with (fail)
    generalize w15.alloc (.cells #[.int .u8 uk, .int .i64 un, .string ut, .slice ua ul uc, .slice ub' um ue] 26) = w16 at *
    generalize w15.heap.size = ob at *
    obtain ⟨k0, k1, k2, k3, k4, -⟩ := blk5 (HK16.out.alloc (.cells #[.string a, .string b] 9))
    obtain ⟨l0, l1, l2, l3, l4, -⟩ := blk5 (HL16.out.alloc (.cells #[.string a, .string b] 9))
    go_upto_region 17 with (fail)
    have hb1 : Below w16.heap.size w16 (((w16.alloc (.cells #[.string a, .string b] 9)).alloc (.cells #[.int .u8 xk, .int .i64 xn, .string xt, .slice xa xl xc, .slice xb xm xe, .int .u8 yk, .int .i64 yn, .string yt, .slice ya yl yc, .slice yb ym ye] 26)).alloc (.cells #[.int .u8 5, .int .i64 0, .string ⟨#[]⟩, .slice (some ⟨w16.heap.size, 0, none⟩) 2 2, .slice (some ⟨w16.heap.size + 1, 0, none⟩) 2 2] 26)) := bel_alloc (bel_alloc (bel_alloc (Below.refl _ _) _) _) _
    have hs1 : (w16.alloc (.cells #[.string a, .string b] 9)).heap.size = w16.heap.size + 1 := size_al _ _
    have hs2 : ((w16.alloc (.cells #[.string a, .string b] 9)).alloc (.cells #[.int .u8 xk, .int .i64 xn, .string xt, .slice xa xl xc, .slice xb xm xe, .int .u8 yk, .int .i64 yn, .string yt, .slice ya yl yc, .slice yb ym ye] 26)).heap.size = w16.heap.size + 1 + 1 := by rw [size_al, size_al]
    have HNB : Hid (BlkAt (((w16.alloc (.cells #[.string a, .string b] 9)).alloc (.cells #[.int .u8 xk, .int .i64 xn, .string xt, .slice xa xl xc, .slice xb xm xe, .int .u8 yk, .int .i64 yn, .string yt, .slice ya yl yc, .slice yb ym ye] 26)).alloc (.cells #[.int .u8 5, .int .i64 0, .string ⟨#[]⟩, .slice (some ⟨w16.heap.size, 0, none⟩) 2 2, .slice (some ⟨w16.heap.size + 1, 0, none⟩) 2 2] 26)) w16.heap.size 9 #[.string a, .string b]) := ((blkAt_new w16 _ _).alloc _).alloc _
    have HRB : Hid (BlkAt (((w16.alloc (.cells #[.string a, .string b] 9)).alloc (.cells #[.int .u8 xk, .int .i64 xn, .string xt, .slice xa xl xc, .slice xb xm xe, .int .u8 yk, .int .i64 yn, .string yt, .slice ya yl yc, .slice yb ym ye] 26)).alloc (.cells #[.int .u8 5, .int .i64 0, .string ⟨#[]⟩, .slice (some ⟨w16.heap.size, 0, none⟩) 2 2, .slice (some ⟨w16.heap.size + 1, 0, none⟩) 2 2] 26)) (w16.heap.size + 1) 26 #[.int .u8 xk, .int .i64 xn, .string xt, .slice xa xl xc, .slice xb xm xe, .int .u8 yk, .int .i64 yn, .string yt, .slice ya yl yc, .slice yb ym ye]) := by
      have := (blkAt_new (w16.alloc (.cells #[.string a, .string b] 9)) #[.int .u8 xk, .int .i64 xn, .string xt, .slice xa xl xc, .slice xb xm xe, .int .u8 yk, .int .i64 yn, .string yt, .slice ya yl yc, .slice yb ym ye] 26).alloc (.cells #[.int .u8 5, .int .i64 0, .string ⟨#[]⟩, .slice (some ⟨w16.heap.size, 0, none⟩) 2 2, .slice (some ⟨w16.heap.size + 1, 0, none⟩) 2 2] 26)
      rwa [hs1] at this
    have HWB : Hid (BlkAt (((w16.alloc (.cells #[.string a, .string b] 9)).alloc (.cells #[.int .u8 xk, .int .i64 xn, .string xt, .slice xa xl xc, .slice xb xm xe, .int .u8 yk, .int .i64 yn, .string yt, .slice ya yl yc, .slice yb ym ye] 26)).alloc (.cells #[.int .u8 5, .int .i64 0, .string ⟨#[]⟩, .slice (some ⟨w16.heap.size, 0, none⟩) 2 2, .slice (some ⟨w16.heap.size + 1, 0, none⟩) 2 2] 26)) (w16.heap.size + 1 + 1) 26 #[.int .u8 5, .int .i64 0, .string ⟨#[]⟩, .slice (some ⟨w16.heap.size, 0, none⟩) 2 2, .slice (some ⟨w16.heap.size + 1, 0, none⟩) 2 2]) := by
      have := blkAt_new ((w16.alloc (.cells #[.string a, .string b] 9)).alloc (.cells #[.int .u8 xk, .int .i64 xn, .string xt, .slice xa xl xc, .slice xb xm xe, .int .u8 yk, .int .i64 yn, .string yt, .slice ya yl yc, .slice yb ym ye] 26)) #[.int .u8 5, .int .i64 0, .string ⟨#[]⟩, .slice (some ⟨w16.heap.size, 0, none⟩) 2 2, .slice (some ⟨w16.heap.size + 1, 0, none⟩) 2 2] 26
      rwa [hs2] at this
    generalize (((w16.alloc (.cells #[.string a, .string b] 9)).alloc (.cells #[.int .u8 xk, .int .i64 xn, .string xt, .slice xa xl xc, .slice xb xm xe, .int .u8 yk, .int .i64 yn, .string yt, .slice ya yl yc, .slice yb ym ye] 26)).alloc (.cells #[.int .u8 5, .int .i64 0, .string ⟨#[]⟩, .slice (some ⟨w16.heap.size, 0, none⟩) 2 2, .slice (some ⟨w16.heap.size + 1, 0, none⟩) 2 2] 26)) = w17 at hb1 HNB HRB HWB ⊢
    generalize hwb0 : w16.heap.size + 1 + 1 = wb0 at *
    have hmb := HM16.out.lt
    have hnb := HN.out.lt
    have HV17 := Lib.hid (HV16.out.keep hb1)
    have HU17 := Lib.hid (HU16.out.keep hb1)
    have HZ17 := Lib.hid (HZ16.out.keep hb1)
    have HY17 := Lib.hid (HY.out.keep hb1)
    have HK17 := Lib.hid (BlkAt.keep HK16.out hb1)
    have HL17 := Lib.hid (BlkAt.keep HL16.out hb1)
    have HM17 := Lib.hid (BlkAt.keep HM16.out hb1)
    have HN17 := Lib.hid (BlkAt.keep HN.out hb1)
    have hB17 := below_more hB16 hb1
    have HWant : Hid (ValAt w17 (.mk 5 0 ⟨#[]⟩ [a, b] [V, U]) (.agg #[.int .u8 5, .int .i64 0, .string ⟨#[]⟩, .slice (some ⟨w16.heap.size, 0, none⟩) 2 2, .slice (some ⟨w16.heap.size + 1, 0, none⟩) 2 2])) := two_want (by omega) (by omega) HNB.out HRB.out HV17.out HU17.out
    clear k0 k1 k2 k3 k4 l0 l1 l2 l3 l4 m0 m1 m2 m3 m4 n0 n1 n2 n3 n4 hs1 hs2
    obtain ⟨m0, m1, m2, m3, m4, -⟩ := blk5 HM17.out
    obtain ⟨n0, n1, n2, n3, n4, -⟩ := blk5 HN17.out
    obtain ⟨q0, q1, q2, q3, q4, -⟩ := blk5 HWB.out
    obtain ⟨nm, hnm⟩ : ∃ x, nmLt a b = x := ⟨_, rfl⟩
    have hnm2 : Op.bytesLess b.toList a.toList = !nm := by rw [← hnm]; exact nm_flip hab
    have hpv : pairV a b V U = if nm = true then .mk 5 0 ⟨#[]⟩ [a, b] [V, U] else .mk 5 0 ⟨#[]⟩ [b, a] [U, V] := by unfold pairV; rw [hnm]
    have HPV := Lib.hid hpv
    clear hnm hpv
    cases nm with
    | true =>
      have hpe : pairV a b V U = .mk 5 0 ⟨#[]⟩ [a, b] [V, U] := HPV.out
      rw [← hpe] at HWant
      have hnm3 : Op.bytesLess b.toList a.toList = false := hnm2
      clear hnm2 hpe
      go_wp2_with fail
      refine (Same_any _ _ _ _ _ HZ17.out HWant.out).mono ?_
      rintro e w18 ⟨rfl, hb18⟩
      rw [sameV_self]
      obtain ⟨n0, n1, n2, n3, n4, -⟩ := blk5 (BlkAt.keep HN17.out hb18)
      obtain ⟨q0, q1, q2, q3, q4, -⟩ := blk5 (BlkAt.keep HWB.out hb18)
      have HY18 := Lib.hid (HY17.out.keep hb18)
      have HW18 := Lib.hid (HWant.out.keep hb18)
      go_wp2_with fail
      refine (Same_any _ _ _ _ _ HY18.out HW18.out).mono ?_
      rintro e w19 ⟨rfl, hb19⟩
      rw [sameV_self]
      go_wp2_with fail
      go_ret
      exact ⟨rfl, below_more (below_more hB17 hb18) hb19⟩
    | false =>
      have hnm3 : Op.bytesLess b.toList a.toList = true := hnm2
      clear hnm2
      go_upto_region 18 with (fail)
      obtain ⟨k0, k1, k2, k3, k4, -⟩ := blk5 (HK17.out.alloc (.cells #[.string b, .string a] 9))
      obtain ⟨l0, l1, l2, l3, l4, -⟩ := blk5 (HL17.out.alloc (.cells #[.string b, .string a] 9))
      obtain ⟨q0, q1, q2, q3, q4, qf⟩ := blk5 ((HWB.out.alloc (.cells #[.string b, .string a] 9)).alloc (.cells #[.int .u8 yk, .int .i64 yn, .string yt, .slice ya yl yc, .slice yb ym ye, .int .u8 xk, .int .i64 xn, .string xt, .slice xa xl xc, .slice xb xm xe] 26))
      go_upto_region 19 with (fail)
      have hw17 := HWB.out.lt
      have hzb := HM17.out.lt
      have hob := HN17.out.lt
      have hs1 : (w17.alloc (.cells #[.string b, .string a] 9)).heap.size = w17.heap.size + 1 := size_al _ _
      have hs2 : ((w17.alloc (.cells #[.string b, .string a] 9)).alloc (.cells #[.int .u8 yk, .int .i64 yn, .string yt, .slice ya yl yc, .slice yb ym ye, .int .u8 xk, .int .i64 xn, .string xt, .slice xa xl xc, .slice xb xm xe] 26)).heap.size = w17.heap.size + 1 + 1 := by rw [size_al, size_al]
      have hne : ∀ k, k ≠ wb0 → ((((((((w17.alloc (.cells #[.string b, .string a] 9)).alloc (.cells #[.int .u8 yk, .int .i64 yn, .string yt, .slice ya yl yc, .slice yb ym ye, .int .u8 xk, .int .i64 xn, .string xt, .slice xa xl xc, .slice xb xm xe] 26)).setCell ⟨wb0, 0, none⟩ (.int .u8 5)).setCell ⟨wb0, 1, none⟩ (.int .i64 0)).setCell ⟨wb0, 2, none⟩ (.string ⟨#[]⟩)).setCell ⟨wb0, 3, none⟩ (.slice (some ⟨w17.heap.size, 0, none⟩) 2 2)).setCell ⟨wb0, 4, none⟩ (.slice (some ⟨w17.heap.size + 1, 0, none⟩) 2 2))).heap[k]? = ((w17.alloc (.cells #[.string b, .string a] 9)).alloc (.cells #[.int .u8 yk, .int .i64 yn, .string yt, .slice ya yl yc, .slice yb ym ye, .int .u8 xk, .int .i64 xn, .string xt, .slice xa xl xc, .slice xb xm xe] 26)).heap[k]? := fun k hk => heap_set5 _ _ _ _ _ _ _ _ hk
      have hba2 : Below w17.heap.size w17 ((w17.alloc (.cells #[.string b, .string a] 9)).alloc (.cells #[.int .u8 yk, .int .i64 yn, .string yt, .slice ya yl yc, .slice yb ym ye, .int .u8 xk, .int .i64 xn, .string xt, .slice xa xl xc, .slice xb xm xe] 26)) := bel_alloc (bel_alloc (Below.refl _ _) _) _
      have HNB2 : Hid (BlkAt ((((((((w17.alloc (.cells #[.string b, .string a] 9)).alloc (.cells #[.int .u8 yk, .int .i64 yn, .string yt, .slice ya yl yc, .slice yb ym ye, .int .u8 xk, .int .i64 xn, .string xt, .slice xa xl xc, .slice xb xm xe] 26)).setCell ⟨wb0, 0, none⟩ (.int .u8 5)).setCell ⟨wb0, 1, none⟩ (.int .i64 0)).setCell ⟨wb0, 2, none⟩ (.string ⟨#[]⟩)).setCell ⟨wb0, 3, none⟩ (.slice (some ⟨w17.heap.size, 0, none⟩) 2 2)).setCell ⟨wb0, 4, none⟩ (.slice (some ⟨w17.heap.size + 1, 0, none⟩) 2 2))) w17.heap.size 9 #[.string b, .string a]) := (hne _ (by omega)).trans ((blkAt_new w17 _ _).alloc _)
      have HRB2 : Hid (BlkAt ((((((((w17.alloc (.cells #[.string b, .string a] 9)).alloc (.cells #[.int .u8 yk, .int .i64 yn, .string yt, .slice ya yl yc, .slice yb ym ye, .int .u8 xk, .int .i64 xn, .string xt, .slice xa xl xc, .slice xb xm xe] 26)).setCell ⟨wb0, 0, none⟩ (.int .u8 5)).setCell ⟨wb0, 1, none⟩ (.int .i64 0)).setCell ⟨wb0, 2, none⟩ (.string ⟨#[]⟩)).setCell ⟨wb0, 3, none⟩ (.slice (some ⟨w17.heap.size, 0, none⟩) 2 2)).setCell ⟨wb0, 4, none⟩ (.slice (some ⟨w17.heap.size + 1, 0, none⟩) 2 2))) (w17.heap.size + 1) 26 #[.int .u8 yk, .int .i64 yn, .string yt, .slice ya yl yc, .slice yb ym ye, .int .u8 xk, .int .i64 xn, .string xt, .slice xa xl xc, .slice xb xm xe]) := by
        have := blkAt_new (w17.alloc (.cells #[.string b, .string a] 9)) #[.int .u8 yk, .int .i64 yn, .string yt, .slice ya yl yc, .slice yb ym ye, .int .u8 xk, .int .i64 xn, .string xt, .slice xa xl xc, .slice xb xm xe] 26
        rw [hs1] at this
        exact (hne _ (by omega)).trans this
      have HWB2 : Hid (BlkAt ((((((((w17.alloc (.cells #[.string b, .string a] 9)).alloc (.cells #[.int .u8 yk, .int .i64 yn, .string yt, .slice ya yl yc, .slice yb ym ye, .int .u8 xk, .int .i64 xn, .string xt, .slice xa xl xc, .slice xb xm xe] 26)).setCell ⟨wb0, 0, none⟩ (.int .u8 5)).setCell ⟨wb0, 1, none⟩ (.int .i64 0)).setCell ⟨wb0, 2, none⟩ (.string ⟨#[]⟩)).setCell ⟨wb0, 3, none⟩ (.slice (some ⟨w17.heap.size, 0, none⟩) 2 2)).setCell ⟨wb0, 4, none⟩ (.slice (some ⟨w17.heap.size + 1, 0, none⟩) 2 2))) wb0 26 #[.int .u8 5, .int .i64 0, .string ⟨#[]⟩, .slice (some ⟨w17.heap.size, 0, none⟩) 2 2, .slice (some ⟨w17.heap.size + 1, 0, none⟩) 2 2]) := (((((BlkAt.keep HWB.out hba2).set 0 _).set 1 _).set 2 _).set 3 _).set 4 _
      have HM19 : Hid (BlkAt ((((((((w17.alloc (.cells #[.string b, .string a] 9)).alloc (.cells #[.int .u8 yk, .int .i64 yn, .string yt, .slice ya yl yc, .slice yb ym ye, .int .u8 xk, .int .i64 xn, .string xt, .slice xa xl xc, .slice xb xm xe] 26)).setCell ⟨wb0, 0, none⟩ (.int .u8 5)).setCell ⟨wb0, 1, none⟩ (.int .i64 0)).setCell ⟨wb0, 2, none⟩ (.string ⟨#[]⟩)).setCell ⟨wb0, 3, none⟩ (.slice (some ⟨w17.heap.size, 0, none⟩) 2 2)).setCell ⟨wb0, 4, none⟩ (.slice (some ⟨w17.heap.size + 1, 0, none⟩) 2 2))) zb0 26 #[.int .u8 zk, .int .i64 zn, .string zt, .slice za zl zc, .slice zb zm ze]) := (hne _ (by omega)).trans (BlkAt.keep HM17.out hba2)
      have HN19 : Hid (BlkAt ((((((((w17.alloc (.cells #[.string b, .string a] 9)).alloc (.cells #[.int .u8 yk, .int .i64 yn, .string yt, .slice ya yl yc, .slice yb ym ye, .int .u8 xk, .int .i64 xn, .string xt, .slice xa xl xc, .slice xb xm xe] 26)).setCell ⟨wb0, 0, none⟩ (.int .u8 5)).setCell ⟨wb0, 1, none⟩ (.int .i64 0)).setCell ⟨wb0, 2, none⟩ (.string ⟨#[]⟩)).setCell ⟨wb0, 3, none⟩ (.slice (some ⟨w17.heap.size, 0, none⟩) 2 2)).setCell ⟨wb0, 4, none⟩ (.slice (some ⟨w17.heap.size + 1, 0, none⟩) 2 2))) ob 26 #[.int .u8 uk, .int .i64 un, .string ut, .slice ua ul uc, .slice ub' um ue]) := (hne _ (by omega)).trans (BlkAt.keep HN17.out hba2)
      have hge : w16.heap.size ≤ wb0 := by omega
      have hbU : Below w16.heap.size w16 ((((((((w17.alloc (.cells #[.string b, .string a] 9)).alloc (.cells #[.int .u8 yk, .int .i64 yn, .string yt, .slice ya yl yc, .slice yb ym ye, .int .u8 xk, .int .i64 xn, .string xt, .slice xa xl xc, .slice xb xm xe] 26)).setCell ⟨wb0, 0, none⟩ (.int .u8 5)).setCell ⟨wb0, 1, none⟩ (.int .i64 0)).setCell ⟨wb0, 2, none⟩ (.string ⟨#[]⟩)).setCell ⟨wb0, 3, none⟩ (.slice (some ⟨w17.heap.size, 0, none⟩) 2 2)).setCell ⟨wb0, 4, none⟩ (.slice (some ⟨w17.heap.size + 1, 0, none⟩) 2 2))) := bel_set (bel_set (bel_set (bel_set (bel_set (below_more hb1 hba2) hge _) hge _) hge _) hge _) hge _
      generalize ((((((((w17.alloc (.cells #[.string b, .string a] 9)).alloc (.cells #[.int .u8 yk, .int .i64 yn, .string yt, .slice ya yl yc, .slice yb ym ye, .int .u8 xk, .int .i64 xn, .string xt, .slice xa xl xc, .slice xb xm xe] 26)).setCell ⟨wb0, 0, none⟩ (.int .u8 5)).setCell ⟨wb0, 1, none⟩ (.int .i64 0)).setCell ⟨wb0, 2, none⟩ (.string ⟨#[]⟩)).setCell ⟨wb0, 3, none⟩ (.slice (some ⟨w17.heap.size, 0, none⟩) 2 2)).setCell ⟨wb0, 4, none⟩ (.slice (some ⟨w17.heap.size + 1, 0, none⟩) 2 2))) = w18 at HNB2 HRB2 HWB2 HM19 HN19 hbU ⊢
      have HV18 := HV16.out.keep hbU
      have HU18 := HU16.out.keep hbU
      have HZ18 := Lib.hid (HZ16.out.keep hbU)
      have HY18 := Lib.hid (HY.out.keep hbU)
      have hB18 := below_more hB16 hbU
      have HWant2 : Hid (ValAt w18 (.mk 5 0 ⟨#[]⟩ [b, a] [U, V]) (.agg #[.int .u8 5, .int .i64 0, .string ⟨#[]⟩, .slice (some ⟨w17.heap.size, 0, none⟩) 2 2, .slice (some ⟨w17.heap.size + 1, 0, none⟩) 2 2])) := two_want (by omega) (by omega) HNB2.out HRB2.out HU18 HV18
      have hpe : pairV a b V U = .mk 5 0 ⟨#[]⟩ [b, a] [U, V] := HPV.out
      rw [← hpe] at HWant2
      clear m0 m1 m2 m3 m4 n0 n1 n2 n3 n4 q0 q1 q2 q3 q4 qf hpe HV18 HU18 k0 k1 k2 k3 k4 l0 l1 l2 l3 l4 hne hs1 hs2
      obtain ⟨m0, m1, m2, m3, m4, -⟩ := blk5 HM19.out
      obtain ⟨n0, n1, n2, n3, n4, -⟩ := blk5 HN19.out
      obtain ⟨q0, q1, q2, q3, q4, -⟩ := blk5 HWB2.out
      generalize w17.heap.size = s17 at *
      go_wp2_with fail
      refine (Same_any _ _ _ _ _ HZ18.out HWant2.out).mono ?_
      rintro e w19 ⟨rfl, hb19⟩
      rw [sameV_self]
      obtain ⟨n0, n1, n2, n3, n4, -⟩ := blk5 (BlkAt.keep HN19.out hb19)
      obtain ⟨q0, q1, q2, q3, q4, -⟩ := blk5 (BlkAt.keep HWB2.out hb19)
      have HY19 := Lib.hid (HY18.out.keep hb19)
      have HW19 := Lib.hid (HWant2.out.keep hb19)
      go_wp2_with fail
      refine (Same_any _ _ _ _ _ HY19.out HW19.out).mono ?_
      rintro e w20 ⟨rfl, hb20⟩
      rw [sameV_self]
      go_wp2_with fail
      go_ret
      exact ⟨rfl, below_more (below_more hB18 hb19) hb20⟩
end Go.Proofs.YtngebebhaehmnaaGreatDoor
