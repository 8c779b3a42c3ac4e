/-
  The walk of the law ReadLists.
-/
import Derived.Test.YtngebebhaehmnaaGreatDoorReadAwake
import Derived.Test.YtngebebhaehmnaaGreatDoorReadJoin
import Derived.Test.YtngebebhaehmnaaGreatDoorReadMay
import Derived.Test.YtngebebhaehmnaaGreatDoorReadFits
import Derived.IntWalk
namespace Go.Proofs.YtngebebhaehmnaaGreatDoor
open Go.RowKit

theorem lists_cat (s t : ByteArray) : ((⟨#[91]⟩ ++ s ++ ⟨#[44]⟩ ++ t ++ ⟨#[93]⟩ : ByteArray)).data.toList = 91 :: (s.data.toList ++ 44 :: (t.data.toList ++ [93])) := by
  rw [ByteArray.data_append, ByteArray.data_append, ByteArray.data_append, ByteArray.data_append]
  simp
theorem lists_size (s t : ByteArray) : ((⟨#[91]⟩ ++ s ++ ⟨#[44]⟩ ++ t ++ ⟨#[93]⟩ : ByteArray)).size = s.size + t.size + 3 := by
  rw [ByteArray.size_append, ByteArray.size_append, ByteArray.size_append, ByteArray.size_append]
  show 1 + s.size + 1 + t.size + 1 = _
  omega
set_option maxRecDepth 100000 in
set_option maxHeartbeats 8000000 in
theorem readLists_walk (s t : ByteArray) (w : World) (w0 : s.size ≤ maxLen) (w1 : t.size ≤ maxLen) (henv : NumEnv w) :
    Calls Tryz.prog 7 #[.string s, .string t] w fun e w' => e = .returned (.bool true) ∧ Below w.heap.size w w' := by
  unfold maxLen at w0 w1
  by_cases hl : 10000 < s.size
  · have hd : decide (10000 < (s.size : Int)) = true := by simp; omega
    go_enter Tryz.func7, Tryz.ntmps7
    go_wp2_with fail
    refine (awake9_any _ henv).mono ?_
    rintro e w3 ⟨rfl, hb3⟩
    go_wp2_with fail
    go_ret
    exact ⟨rfl, hb3⟩
  by_cases hl2 : 10000 < t.size
  · have hd : decide (10000 < (s.size : Int)) = false := by simp; omega
    have hd2 : decide (10000 < (t.size : Int)) = true := by simp; omega
    go_enter Tryz.func7, Tryz.ntmps7
    go_wp2_with fail
    refine (awake9_any _ henv).mono ?_
    rintro e w3 ⟨rfl, hb3⟩
    go_wp2_with fail
    go_ret
    exact ⟨rfl, hb3⟩
  have hd : decide (10000 < (s.size : Int)) = false := by simp; omega
  have hd2 : decide (10000 < (t.size : Int)) = false := by simp; omega
  obtain ⟨R1, hR1⟩ : ∃ R1, readV s.data.toList = R1 := ⟨_, rfl⟩
  obtain ⟨R2, hR2⟩ : ∃ R2, readV t.data.toList = R2 := ⟨_, rfl⟩
  have HR := Lib.hid (fun W hE => read_any s W (by omega) hE R1 (Lib.hid hR1))
  have HR2 := Lib.hid (fun W hE => read_any t W (by omega) hE R2 (Lib.hid hR2))
  cases R1 with
  | bad p er =>
    clear hR1 hR2
    go_enter Tryz.func7, Tryz.ntmps7
    go_wp2_with fail
    refine (awake9_any _ henv).mono ?_
    rintro e w3 ⟨rfl, hb3⟩
    go_wp2_with fail
    refine (HR.out _ (henv.below hb3)).mono ?_
    rintro e w4 ⟨hb4, rfl, hne⟩
    have heb : (er != 0) = true := by rw [bne_iff_ne]; exact hne
    simp only [zeroV]
    go_wp2_with fail
    have hb5 := bel_alloc (below_more hb3 hb4) (.cells #[.int .u8 0, .int .i64 0, .string ⟨#[]⟩, .slice none 0 0, .slice none 0 0] 26)
    generalize w4.alloc (.cells #[.int .u8 0, .int .i64 0, .string ⟨#[]⟩, .slice none 0 0, .slice none 0 0] 26) = w5 at hb5 ⊢
    refine (HR2.out _ (henv.below hb5)).mono ?_
    cases R2 with
    | bad p2 er2 =>
      rintro e w6 ⟨hb6, rfl, -⟩
      simp only [zeroV]
      go_wp2_with fail
      go_ret
      exact ⟨rfl, bel_alloc (below_more hb5 hb6) _⟩
    | ok V2 ms2 c2 =>
      rintro e w6 ⟨hb6, ⟨xk, xn, xt, xa, xl, xc, xb, xm, xe⟩, rfl, -⟩
      simp only [VC.val]
      go_wp2_with fail
      go_ret
      exact ⟨rfl, bel_alloc (below_more hb5 hb6) _⟩
  | ok V ms c =>
    have hmayV := read_may hR1
    cases R2 with
    | bad p er =>
      clear hR1 hR2
      go_enter Tryz.func7, Tryz.ntmps7
      go_wp2_with fail
      refine (awake9_any _ henv).mono ?_
      rintro e w3 ⟨rfl, hb3⟩
      go_wp2_with fail
      refine (HR.out _ (henv.below hb3)).mono ?_
      rintro e w4 ⟨hb4, ⟨xk, xn, xt, xa, xl, xc, xb, xm, xe⟩, rfl, -⟩
      simp only [VC.val]
      go_wp2_with fail
      have hb5 := bel_alloc (below_more hb3 hb4) (.cells #[.int .u8 xk, .int .i64 xn, .string xt, .slice xa xl xc, .slice xb xm xe] 26)
      generalize w4.alloc (.cells #[.int .u8 xk, .int .i64 xn, .string xt, .slice xa xl xc, .slice xb xm xe] 26) = w5 at hb5 ⊢
      refine (HR2.out _ (henv.below hb5)).mono ?_
      rintro e w6 ⟨hb6, rfl, hne⟩
      have heb : (er != 0) = true := by rw [bne_iff_ne]; exact hne
      simp only [zeroV]
      go_wp2_with fail
      go_ret
      exact ⟨rfl, bel_alloc (below_more hb5 hb6) _⟩
    | ok U ms2 c2 =>
      have hmayU := read_may hR2
      obtain ⟨-, dV, cV⟩ := (mayB_iff V).1 hmayV.1
      obtain ⟨-, dU, cU⟩ := (mayB_iff U).1 hmayU.1
      obtain ⟨p1, p2⟩ := lists_plain hR1 hR2 (by rw [size_len, size_len]; omega)
      rw [← lists_cat] at p1 p2
      obtain ⟨R3, hR3⟩ : ∃ R3, readV (⟨#[91]⟩ ++ s ++ ⟨#[44]⟩ ++ t ++ ⟨#[93]⟩ : ByteArray).data.toList = R3 := ⟨_, rfl⟩
      have HR3 := Lib.hid (fun W hE => read_any (⟨#[91]⟩ ++ s ++ ⟨#[44]⟩ ++ t ++ ⟨#[93]⟩ : ByteArray) W (by rw [lists_size]; omega) hE R3 (Lib.hid hR3))
      obtain ⟨m, hm⟩ : ∃ m, decide (8192 < countV V + countV U + 1) = m := ⟨_, rfl⟩
      obtain ⟨d1, hd1⟩ : ∃ m, decide (12 ≤ depthV V) = m := ⟨_, rfl⟩
      obtain ⟨d2, hd2⟩ : ∃ m, decide (12 ≤ depthV U) = m := ⟨_, rfl⟩
      have HF := Lib.hid (fun w' v u (h1 : ValAt w' V v) (h2 : ValAt w' U u) => fits_any V U v u w' h1 h2 cV cU m d1 d2 (Lib.hid hm) (Lib.hid hd1) (Lib.hid hd2))
      rw [hR3] at p1 p2
      have hcase : (m = false ∧ (d1 || d2) = false ∧ ∃ ms3 c3, R3 = .ok (listV [V, U]) ms3 c3) ∨ (∃ p e, R3 = .bad p e ∧ 0 < p ∧ ((m = true ∧ (d1 || d2) = true ∧ (e = 5 ∨ e = 8)) ∨ (m = true ∧ (d1 || d2) = false ∧ e = 5) ∨ (m = false ∧ (d1 || d2) = true ∧ e = 8))) := by
        subst hm hd1 hd2
        by_cases hf : depthV V ≤ 11 ∧ depthV U ≤ 11 ∧ countV V + countV U + 1 ≤ 8192
        · obtain ⟨ms3, c3, e⟩ := p1 hf
          exact Or.inl ⟨by simp; omega, by simp; omega, ms3, c3, e⟩
        · obtain ⟨p, e, h1, h2, h3⟩ := p2 hf
          refine Or.inr ⟨p, e, h1, h2, ?_⟩
          simp only [decide_eq_true_eq, Bool.or_eq_true, decide_eq_false_iff_not, Bool.or_eq_false_iff]
          omega
      clear hR1 hR2 hR3 p1 p2 hm hd1 hd2 hmayV hmayU dV cV dU cU
      go_enter Tryz.func7, Tryz.ntmps7
      go_wp2_with fail
      refine (awake9_any _ henv).mono ?_
      rintro e w3 ⟨rfl, hb3⟩
      go_wp2_with fail
      refine (HR.out _ (henv.below hb3)).mono ?_
      rintro e w4 ⟨hb4, ⟨xk, xn, xt, xa, xl, xc, xb, xm, xe⟩, rfl, hnew⟩
      simp only [VC.val]
      go_wp2_with fail
      have hB5 := bel_alloc (below_more hb3 hb4) (.cells #[.int .u8 xk, .int .i64 xn, .string xt, .slice xa xl xc, .slice xb xm xe] 26)
      have HV5 : Hid (ValAt (w4.alloc (.cells #[.int .u8 xk, .int .i64 xn, .string xt, .slice xa xl xc, .slice xb xm xe] 26)) V (VC.val ⟨xk, xn, xt, xa, xl, xc, xb, xm, xe⟩)) := hnew.bare.keep (bel_alloc (Below.refl _ _) _)
      have HK5 : Hid (BlkAt (w4.alloc (.cells #[.int .u8 xk, .int .i64 xn, .string xt, .slice xa xl xc, .slice xb xm xe] 26)) w4.heap.size 26 #[.int .u8 xk, .int .i64 xn, .string xt, .slice xa xl xc, .slice xb xm xe]) := blkAt_new w4 _ _
      clear hnew
      generalize w4.alloc (.cells #[.int .u8 xk, .int .i64 xn, .string xt, .slice xa xl xc, .slice xb xm xe] 26) = w5 at HV5 HK5 hB5 ⊢
      generalize w4.heap.size = vb at HK5 ⊢
      refine (HR2.out _ (henv.below hB5)).mono ?_
      rintro e w6 ⟨hb6, ⟨yk, yn, yt, ya, yl, yc, yb, ym, ye⟩, rfl, hnew6⟩
      simp only [VC.val]
      go_wp2_with fail
      have hba := bel_alloc hb6 (.cells #[.int .u8 yk, .int .i64 yn, .string yt, .slice ya yl yc, .slice yb ym ye] 26)
      have HU6 : Hid (ValAt (w6.alloc (.cells #[.int .u8 yk, .int .i64 yn, .string yt, .slice ya yl yc, .slice yb ym ye] 26)) U (VC.val ⟨yk, yn, yt, ya, yl, yc, yb, ym, ye⟩)) := hnew6.bare.keep (bel_alloc (Below.refl _ _) _)
      have HL6 : Hid (BlkAt (w6.alloc (.cells #[.int .u8 yk, .int .i64 yn, .string yt, .slice ya yl yc, .slice yb ym ye] 26)) w6.heap.size 26 #[.int .u8 yk, .int .i64 yn, .string yt, .slice ya yl yc, .slice yb ym ye]) := blkAt_new w6 _ _
      have HV6 := Lib.hid (HV5.out.keep hba)
      have HK6 := Lib.hid (BlkAt.keep HK5.out hba)
      have hB6 := below_more hB5 hba
      clear hnew6 hba
      generalize w6.alloc (.cells #[.int .u8 yk, .int .i64 yn, .string yt, .slice ya yl yc, .slice yb ym ye] 26) = w7 at HU6 HL6 HV6 HK6 hB6 ⊢
      generalize w6.heap.size = ub at HL6 ⊢
      refine (HR3.out _ (henv.below hB6)).mono ?_
      rcases hcase with ⟨hm, hdd, ms3, c3, rfl⟩ | ⟨p, er, rfl, hp0, hcase⟩
      · rintro e w8 ⟨hb8, ⟨zk, zn, zt, za, zl, zc, zb, zm, ze⟩, rfl, hnew8⟩
        simp only [VC.val]
        have hba := bel_alloc hb8 (.cells #[.int .u8 zk, .int .i64 zn, .string zt, .slice za zl zc, .slice zb zm ze] 26)
        have HZ : Hid (ValAt (w8.alloc (.cells #[.int .u8 zk, .int .i64 zn, .string zt, .slice za zl zc, .slice zb zm ze] 26)) (listV [V, U]) (VC.val ⟨zk, zn, zt, za, zl, zc, zb, zm, ze⟩)) := hnew8.bare.keep (bel_alloc (Below.refl _ _) _)
        have HM : Hid (BlkAt (w8.alloc (.cells #[.int .u8 zk, .int .i64 zn, .string zt, .slice za zl zc, .slice zb zm ze] 26)) w8.heap.size 26 #[.int .u8 zk, .int .i64 zn, .string zt, .slice za zl zc, .slice zb zm ze]) := blkAt_new w8 _ _
        have HV8 := Lib.hid (HV6.out.keep hba)
        have HU8 := Lib.hid (HU6.out.keep hba)
        have HK8 := Lib.hid (BlkAt.keep HK6.out hba)
        have HL8 := Lib.hid (BlkAt.keep HL6.out hba)
        have hB8 := below_more hB6 hba
        obtain ⟨k0, k1, k2, k3, k4, -⟩ := blk5 HK8.out
        obtain ⟨l0, l1, l2, l3, l4, -⟩ := blk5 HL8.out
        clear hnew8 hba
        go_wp2_with fail
        generalize w8.alloc (.cells #[.int .u8 zk, .int .i64 zn, .string zt, .slice za zl zc, .slice zb zm ze] 26) = w9 at *
        generalize w8.heap.size = zb at *
        refine (HF.out _ _ _ HV8.out HU8.out).mono ?_
        rintro e w10 ⟨rfl, hb10⟩
        rw [hm, hdd]
        obtain ⟨k0, k1, k2, k3, k4, -⟩ := blk5 (BlkAt.keep HK8.out hb10)
        obtain ⟨l0, l1, l2, l3, l4, -⟩ := blk5 (BlkAt.keep HL8.out hb10)
        obtain ⟨m0, m1, m2, m3, m4, -⟩ := blk5 (BlkAt.keep HM.out hb10)
        have HV10 := Lib.hid (HV8.out.keep hb10)
        have HU10 := Lib.hid (HU8.out.keep hb10)
        have HZ10 := Lib.hid (HZ.out.keep hb10)
        go_wp2_with fail
        have hbx : Below w10.heap.size w10 (w10.alloc (.cells #[.int .u8 xk, .int .i64 xn, .string xt, .slice xa xl xc, .slice xb xm xe, .int .u8 yk, .int .i64 yn, .string yt, .slice ya yl yc, .slice yb ym ye] 26)) := bel_alloc (Below.refl _ _) _
        have hrow : ValAt (w10.alloc (.cells #[.int .u8 xk, .int .i64 xn, .string xt, .slice xa xl xc, .slice xb xm xe, .int .u8 yk, .int .i64 yn, .string yt, .slice ya yl yc, .slice yb ym ye] 26)) (listV [V, U]) (.agg #[.int .u8 4, .int .i64 0, .string ⟨#[]⟩, .slice none 0 0, .slice (some ⟨w10.heap.size, 0, none⟩) 2 2]) :=
          valAt_mk (by decide) (by decide) (by decide) (by decide) (by decide) (strsAt_nil _) (itemsAt_len (by simp) (rowAt_cons (HV10.out.keep hbx) (cell_al_eq _ _ _ _ _ rfl) (cell_al_eq _ _ _ _ _ rfl) (cell_al_eq _ _ _ _ _ rfl) (cell_al_eq _ _ _ _ _ rfl) (cell_al_eq _ _ _ _ _ rfl) (rowAt_cons (HU10.out.keep hbx) (cell_al_eq _ _ _ _ _ rfl) (cell_al_eq _ _ _ _ _ rfl) (cell_al_eq _ _ _ _ _ rfl) (cell_al_eq _ _ _ _ _ rfl) (cell_al_eq _ _ _ _ _ rfl) (rowAt_nil _ _ _))))
        refine (Same_any (listV [V, U]) (listV [V, U]) _ _ _ (HZ10.out.keep hbx) hrow).mono ?_
        rintro e w11 ⟨rfl, hb11⟩
        rw [sameV_self]
        go_wp2_with fail
        go_ret
        exact ⟨rfl, below_more hB8 (below_more hb10 (below_more hbx hb11))⟩
      · rintro e w8 ⟨hb8, rfl, hne⟩
        have HV8 := Lib.hid (HV6.out.keep (bel_alloc hb8 (.cells #[.int .u8 0, .int .i64 0, .string ⟨#[]⟩, .slice none 0 0, .slice none 0 0] 26)))
        have HU8 := Lib.hid (HU6.out.keep (bel_alloc hb8 (.cells #[.int .u8 0, .int .i64 0, .string ⟨#[]⟩, .slice none 0 0, .slice none 0 0] 26)))
        have HK8 := Lib.hid (BlkAt.keep HK6.out (bel_alloc hb8 (.cells #[.int .u8 0, .int .i64 0, .string ⟨#[]⟩, .slice none 0 0, .slice none 0 0] 26)))
        have HL8 := Lib.hid (BlkAt.keep HL6.out (bel_alloc hb8 (.cells #[.int .u8 0, .int .i64 0, .string ⟨#[]⟩, .slice none 0 0, .slice none 0 0] 26)))
        have hB8 := below_more hB6 (bel_alloc hb8 (.cells #[.int .u8 0, .int .i64 0, .string ⟨#[]⟩, .slice none 0 0, .slice none 0 0] 26))
        obtain ⟨k0, k1, k2, k3, k4, -⟩ := blk5 HK8.out
        obtain ⟨l0, l1, l2, l3, l4, -⟩ := blk5 HL8.out
        have hp1 : (0 : Int) < (p : Int) := by omega
        simp only [zeroV]
        rcases hcase with ⟨hm, hdd, rfl | rfl⟩ | ⟨hm, hdd, rfl⟩ | ⟨hm, hdd, rfl⟩
        all_goals
          go_wp2_with fail
          refine (HF.out _ _ _ HV8.out HU8.out).mono ?_
          rintro e w10 ⟨rfl, hb10⟩
          rw [hm, hdd]
          go_wp2_with fail
          go_ret
          exact ⟨rfl, below_more hB8 hb10⟩
end Go.Proofs.YtngebebhaehmnaaGreatDoor
