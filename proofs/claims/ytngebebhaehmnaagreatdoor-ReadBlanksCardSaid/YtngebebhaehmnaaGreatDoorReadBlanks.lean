/-
  The walk of the law ReadBlanks.
-/
import Derived.Test.YtngebebhaehmnaaGreatDoorReadAwake
import Derived.Test.YtngebebhaehmnaaGreatDoorReadMove
import Derived.Test.YtngebebhaehmnaaGreatDoorReadBytes
import Derived.IntWalk
namespace Go.Proofs.YtngebebhaehmnaaGreatDoor
open Go.RowKit

def four : ByteArray := ⟨#[32, 9, 10, 13]⟩
theorem four_blank (k : Nat) (h : k < 4) : isBlank (four[k]'h) = true := by
  match k, h with
  | 0, _ => rfl
  | 1, _ => rfl
  | 2, _ => rfl
  | 3, _ => rfl
theorem cat_list (s t : ByteArray) : (s ++ t).data.toList = s.data.toList ++ t.data.toList := by
  rw [ByteArray.data_append]
  simp
theorem rep_blank {c : UInt8} (h : isBlank c = true) (n : Nat) : ∀ x ∈ List.replicate n c, isBlank x = true := fun x hx => by rw [(List.mem_replicate.1 hx).2]; exact h
set_option maxRecDepth 100000 in
set_option maxHeartbeats 8000000 in
theorem readBlanks_walk (s : ByteArray) (n wh : Int) (w : World) (w0 : s.size ≤ maxLen) (w1 : (Lit.int .u8 n).wf = true) (w2 : (Lit.int .u8 wh).wf = true) (henv : NumEnv w) :
    Calls Tryz.prog 6 #[.string s, .int .u8 n, .int .u8 wh] w fun e w' => e = .returned (.bool true) ∧ Below w.heap.size w w' := by
  unfold maxLen at w0
  have hn : 0 ≤ n ∧ n ≤ 255 := by simp [Lit.wf, IntKind.min, IntKind.max, IntKind.bits, IntKind.signed] at w1; omega
  have hwh : 0 ≤ wh ∧ wh ≤ 255 := by simp [Lit.wf, IntKind.min, IntKind.max, IntKind.bits, IntKind.signed] at w2; omega
  clear w1 w2
  by_cases hl : 20000 < s.size
  · have hd : decide (20000 < (s.size : Int)) = true := by simp; omega
    go_enter Tryz.func6, Tryz.ntmps6
    go_wp2_with fail
    refine (awake9_any _ henv).mono ?_
    rintro e w3 ⟨rfl, hb3⟩
    go_wp2_with fail
    go_ret
    exact ⟨rfl, hb3⟩
  have hd : decide (20000 < (s.size : Int)) = false := by simp; omega
  obtain ⟨N, rfl⟩ : ∃ N : Nat, n = N := ⟨n.toNat, by omega⟩
  have hN : N ≤ 255 := by omega
  obtain ⟨k, hk, hk4⟩ : ∃ k : Nat, wh % 4 = k ∧ k < 4 := ⟨(wh % 4).toNat, by omega, by omega⟩
  have hkt : wh.tmod 4 = (k : Int) := by rw [Int.tmod_eq_emod_of_nonneg hwh.1]; exact hk
  have hk0 : (0 : Int) ≤ (k : Int) := by omega
  have hk1 : (k : Int) < 4 := by omega
  have hcb := four_blank k hk4
  obtain ⟨cb, hcbe⟩ : ∃ cb, four[k]'hk4 = cb := ⟨_, rfl⟩
  rw [hcbe] at hcb
  have hcbe' : (⟨#[32, 9, 10, 13]⟩ : ByteArray)[k]'hk4 = cb := hcbe
  clear hcbe
  obtain ⟨B, hB⟩ : ∃ B : ByteArray, (⟨(List.replicate N cb).toArray⟩ : ByteArray) = B := ⟨_, rfl⟩
  have hBl : B.data.toList = List.replicate N cb := by rw [← hB]
  have hBs : B.size = N := by rw [← size_len, hBl, List.length_replicate]
  have hblank : ∀ x ∈ B.data.toList, isBlank x = true := by rw [hBl]; exact rep_blank hcb N
  obtain ⟨R1, hR1⟩ : ∃ R1, readV s.data.toList = R1 := ⟨_, rfl⟩
  have HR := Lib.hid (fun W hE => read_any s W (by omega) hE R1 (Lib.hid hR1))
  obtain ⟨R2, hR2⟩ : ∃ R2, readV (B ++ s).data.toList = R2 := ⟨_, rfl⟩
  have HR2 := Lib.hid (fun W hE => read_any (B ++ s) W (by rw [ByteArray.size_append]; omega) hE R2 (Lib.hid hR2))
  obtain ⟨R3, hR3⟩ : ∃ R3, readV (s ++ B).data.toList = R3 := ⟨_, rfl⟩
  have HR3 := Lib.hid (fun W hE => read_any (s ++ B) W (by rw [ByteArray.size_append]; omega) hE R3 (Lib.hid hR3))
  have hl2 : (B.data.toList ++ s.data.toList).length ≤ 65536 := by rw [List.length_append, size_len, size_len]; omega
  have hl3 : (s.data.toList ++ B.data.toList).length ≤ 65536 := by rw [List.length_append, size_len, size_len]; omega
  go_enter Tryz.func6, Tryz.ntmps6
  go_wp2_with fail
  refine (awake9_any _ henv).mono ?_
  rintro e w3 ⟨rfl, hb3⟩
  go_wp2_with fail
  refine (bytes9_any cb N _ (by omega)).mono ?_
  rintro e w4 ⟨rfl, hb4⟩
  rw [hB]
  go_wp2_with fail
  refine (HR.out _ (henv.below (below_more hb3 hb4))).mono ?_
  cases R1 with
  | bad p er =>
    rintro e w5 ⟨hb5, rfl, hne⟩
    have h2 := ahead_bad hblank hl2 hR1 hne
    rw [← cat_list, hR2] at h2
    subst h2
    have hp : p ≤ s.size := by have := readV_in hR1; rwa [size_len] at this
    have heb : (er != 0) = true := by rw [bne_iff_ne]; exact hne
    have heb' : (er == 0) = false := by rw [beq_eq_false_iff_ne]; exact hne
    have hp0 : (0 : Int) ≤ (p : Int) := by omega
    have hpN : ((p + B.data.toList.length : Nat) : Int) = (p : Int) + (N : Int) := by rw [hBl, List.length_replicate]; push_cast; rfl
    simp only [zeroV]
    go_wp2_with fail
    have HB5 := Lib.hid (bel_alloc (below_more (below_more hb3 hb4) hb5) (.cells #[.int .u8 0, .int .i64 0, .string ⟨#[]⟩, .slice none 0 0, .slice none 0 0] 26))
    generalize w5.alloc (.cells #[.int .u8 0, .int .i64 0, .string ⟨#[]⟩, .slice none 0 0, .slice none 0 0] 26) = w5' at HB5 ⊢
    refine (HR2.out _ (henv.below HB5.out)).mono ?_
    rintro e w6 ⟨hb6, rfl, -⟩
    simp only [zeroV]
    rw [hpN]
    have hc3 : (er == 4) = false ∨ ((er == 4) = true ∧ ((p : Int) == (s.size : Int)) = false) ∨ ((er == 4) = true ∧ ((p : Int) == (s.size : Int)) = true ∧ p = s.size) := by
      by_cases h4 : er = 4
      · by_cases h5 : p = s.size
        · exact Or.inr (Or.inr ⟨beq_iff_eq.2 h4, beq_iff_eq.2 (by omega), h5⟩)
        · exact Or.inr (Or.inl ⟨beq_iff_eq.2 h4, beq_eq_false_iff_ne.2 (by omega)⟩)
      · exact Or.inl (beq_eq_false_iff_ne.2 h4)
    rcases hc3 with g1 | ⟨g1, g2⟩ | ⟨g1, g2, g3⟩
    · go_wp2_with fail
      go_ret
      exact ⟨rfl, bel_alloc (below_more HB5.out hb6) _⟩
    · go_wp2_with fail
      go_ret
      exact ⟨rfl, bel_alloc (below_more HB5.out hb6) _⟩
    · have h3 := behind_short hblank hl3 hne (by rw [size_len, ← g3]; exact hR1)
      rw [← cat_list, hR3, size_len, hBl, List.length_replicate] at h3
      subst h3
      have HG3 := Lib.hid g3
      clear g3
      go_wp2_with fail
      have HB6 := Lib.hid (bel_alloc (below_more HB5.out hb6) (.cells #[.int .u8 0, .int .i64 0, .string ⟨#[]⟩, .slice none 0 0, .slice none 0 0] 26))
      generalize w6.alloc (.cells #[.int .u8 0, .int .i64 0, .string ⟨#[]⟩, .slice none 0 0, .slice none 0 0] 26) = w6' at HB6 ⊢
      refine (HR3.out _ (henv.below HB6.out)).mono ?_
      rintro e w7 ⟨hb7, rfl, -⟩
      have hsN : ((s.size + N : Nat) : Int) = (p : Int) + (N : Int) := by have := HG3.out; omega
      simp only [zeroV]
      rw [hsN]
      go_wp2_with fail
      go_ret
      exact ⟨by simp, bel_alloc (below_more HB6.out hb7) _⟩
  | ok V ms c =>
    rintro e w5 ⟨hb5, ⟨xk, xn, xt, xa, xl, xc, xb, xm, xe⟩, rfl, hnew⟩
    obtain ⟨ms2, h2⟩ := ahead_ok hblank hl2 hR1
    obtain ⟨ms3, h3⟩ := behind_ok hblank hl3 hR1
    rw [← cat_list, hR2] at h2
    rw [← cat_list, hR3] at h3
    subst h2
    subst h3
    have HV5 := Lib.hid hnew.bare
    clear hnew
    simp only [VC.val]
    go_wp2_with fail
    have hB5 := bel_alloc (below_more (below_more hb3 hb4) hb5) (.cells #[.int .u8 xk, .int .i64 xn, .string xt, .slice xa xl xc, .slice xb xm xe] 26)
    have HV5' : Hid (ValAt (w5.alloc (.cells #[.int .u8 xk, .int .i64 xn, .string xt, .slice xa xl xc, .slice xb xm xe] 26)) V (VC.val ⟨xk, xn, xt, xa, xl, xc, xb, xm, xe⟩)) := HV5.out.keep (bel_alloc (Below.refl _ _) _)
    have HK5 : Hid (BlkAt (w5.alloc (.cells #[.int .u8 xk, .int .i64 xn, .string xt, .slice xa xl xc, .slice xb xm xe] 26)) w5.heap.size 26 #[.int .u8 xk, .int .i64 xn, .string xt, .slice xa xl xc, .slice xb xm xe]) := blkAt_new w5 #[.int .u8 xk, .int .i64 xn, .string xt, .slice xa xl xc, .slice xb xm xe] 26
    generalize w5.alloc (.cells #[.int .u8 xk, .int .i64 xn, .string xt, .slice xa xl xc, .slice xb xm xe] 26) = w5' at HV5' HK5 hB5 ⊢
    generalize w5.heap.size = vb at HK5 ⊢
    refine (HR2.out _ (henv.below hB5)).mono ?_
    rintro e w6 ⟨hb6, ⟨yk, yn, yt, ya, yl, yc, yb, ym, ye⟩, rfl, hnew6⟩
    have HW6 := Lib.hid hnew6.bare
    clear hnew6
    simp only [VC.val]
    go_wp2_with fail
    have hW6 : Hid (ValAt (w6.alloc (.cells #[.int .u8 yk, .int .i64 yn, .string yt, .slice ya yl yc, .slice yb ym ye] 26)) V (VC.val ⟨yk, yn, yt, ya, yl, yc, yb, ym, ye⟩)) := HW6.out.keep (bel_alloc (Below.refl _ _) _)
    have HV6 := HV5'.out.keep (bel_alloc hb6 (.cells #[.int .u8 yk, .int .i64 yn, .string yt, .slice ya yl yc, .slice yb ym ye] 26))
    have hB6 := bel_alloc (below_more hB5 hb6) (.cells #[.int .u8 yk, .int .i64 yn, .string yt, .slice ya yl yc, .slice yb ym ye] 26)
    have HK6 := BlkAt.keep HK5.out (bel_alloc hb6 (.cells #[.int .u8 yk, .int .i64 yn, .string yt, .slice ya yl yc, .slice yb ym ye] 26))
    have HL6 := blkAt_new w6 #[.int .u8 yk, .int .i64 yn, .string yt, .slice ya yl yc, .slice yb ym ye] 26
    have HV6 := Lib.hid HV6
    have HK6 := Lib.hid HK6
    have HL6 := Lib.hid HL6
    generalize w6.alloc (.cells #[.int .u8 yk, .int .i64 yn, .string yt, .slice ya yl yc, .slice yb ym ye] 26) = w6' at hW6 HV6 hB6 HK6 HL6 ⊢
    generalize w6.heap.size = wb at HL6 ⊢
    refine (HR3.out _ (henv.below hB6)).mono ?_
    rintro e w7 ⟨hb7, ⟨zk, zn, zt, za, zl, zc, zb, zm, ze⟩, rfl, hnew7⟩
    have HU7 := Lib.hid hnew7.bare
    clear hnew7
    simp only [VC.val]
    have hbz := bel_alloc hb7 (.cells #[.int .u8 zk, .int .i64 zn, .string zt, .slice za zl zc, .slice zb zm ze] 26)
    obtain ⟨k0, k1, k2, k3, k4, kf⟩ := blk5 (BlkAt.keep HK6.out hbz)
    obtain ⟨l0, l1, l2, l3, l4, lf⟩ := blk5 (BlkAt.keep HL6.out hbz)
    have HM7 := blkAt_new w7 #[.int .u8 zk, .int .i64 zn, .string zt, .slice za zl zc, .slice zb zm ze] 26
    have HU8 : Hid (ValAt (w7.alloc (.cells #[.int .u8 zk, .int .i64 zn, .string zt, .slice za zl zc, .slice zb zm ze] 26)) V (VC.val ⟨zk, zn, zt, za, zl, zc, zb, zm, ze⟩)) := HU7.out.keep (bel_alloc (Below.refl _ _) _)
    have HV8 := Lib.hid (HV6.out.keep hbz)
    have HW8 := Lib.hid (hW6.out.keep hbz)
    have HB8 := Lib.hid (below_more hB6 hbz)
    have HM7 := Lib.hid HM7
    have HK8 := Lib.hid (BlkAt.keep HK6.out hbz)
    go_wp2_with fail
    generalize w7.alloc (.cells #[.int .u8 zk, .int .i64 zn, .string zt, .slice za zl zc, .slice zb zm ze] 26) = w8 at *
    refine (Same_any V V _ _ _ HV8.out HW8.out).mono ?_
    rintro e w9 ⟨rfl, hb9⟩
    rw [sameV_self]
    obtain ⟨k0, k1, k2, k3, k4, kf⟩ := blk5 (BlkAt.keep HK8.out hb9)
    obtain ⟨m0, m1, m2, m3, m4, mf⟩ := blk5 (BlkAt.keep HM7.out hb9)
    have HU9 := Lib.hid (HU8.out.keep hb9)
    have HV9 := Lib.hid (HV8.out.keep hb9)
    go_wp2_with fail
    refine (Same_any V V _ _ _ HU9.out HV9.out).mono ?_
    rintro e w10 ⟨rfl, hb10⟩
    rw [sameV_self]
    go_wp2_with fail
    go_ret
    exact ⟨rfl, below_more (below_more HB8.out hb9) hb10⟩
end Go.Proofs.YtngebebhaehmnaaGreatDoor
