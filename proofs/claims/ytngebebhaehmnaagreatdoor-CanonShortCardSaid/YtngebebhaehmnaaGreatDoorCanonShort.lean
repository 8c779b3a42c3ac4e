/-
  The walk of the law CanonShort.
-/
import Derived.Test.YtngebebhaehmnaaGreatDoorCanonAwake
import Derived.Test.YtngebebhaehmnaaGreatDoorCanonShortP
import Derived.Test.YtngebebhaehmnaaGreatDoorCopyA
import Derived.Test.YtngebebhaehmnaaGreatDoorReadMayP
import Derived.Test.YtngebebhaehmnaaGreatDoorReadRead
import Derived.IntWalk
namespace Go.Proofs.YtngebebhaehmnaaGreatDoor
open Go.RowKit

theorem NewV.pure {B : Nat} {w w' : World} {V : JV} {v : Value} (h : NewV B w V v) (hb : Below w.heap.size w w') : ValAt (pureW w') V v := ValAt.imp (hid_imp fun k hk _ => ⟨rfl, hb.block k hk⟩) h
set_option maxRecDepth 100000 in
set_option maxHeartbeats 8000000 in
theorem canonShort_walk (s : ByteArray) (w : World) (w0 : s.size ≤ maxLen) (henv : NumEnv w) :
    Calls Tryz.prog 10 #[.string s] w fun e w' => e = .returned (.bool true) ∧ Below w.heap.size w w' := by
  unfold maxLen at w0
  by_cases hl : 20000 < s.size
  · have hd : decide (20000 < (s.size : Int)) = true := by simp; omega
    go_enter Tryz.func10, Tryz.ntmps10
    go_wp2_with fail
    refine (canonAwake_any _ henv.toTabEnv).mono ?_
    rintro e w3 ⟨rfl, hb3⟩
    go_wp2_with fail
    go_ret
    exact ⟨rfl, hb3⟩
  have hd : decide (20000 < (s.size : Int)) = false := by simp; omega
  obtain ⟨R1, hR1⟩ : ∃ R1, readV s.data.toList = R1 := ⟨_, rfl⟩
  have HR := Lib.hid (fun W hE => read_any s W (by omega) hE R1 (Lib.hid hR1))
  cases R1 with
  | bad p er =>
    clear hR1
    go_enter Tryz.func10, Tryz.ntmps10
    go_wp2_with fail
    refine (canonAwake_any _ henv.toTabEnv).mono ?_
    rintro e w3 ⟨rfl, hb3⟩
    go_wp2_with fail
    refine (HR.out _ (henv.below hb3)).mono ?_
    rintro e w4 ⟨hb4, rfl, hne⟩
    have heb : (er != 0) = true := by rw [bne_iff_ne]; exact hne
    simp only [zeroV]
    go_wp2_with fail
    go_ret
    exact ⟨rfl, bel_alloc (below_more hb3 hb4) _⟩
  | ok V ms c =>
    have hmay := (read_may hR1).1
    have HM := Lib.hid hmay
    have hwt := wt_may hmay
    have hsh := short_plain hR1
    obtain ⟨sV, hsV⟩ : ∃ s, Hid (s = (⟨(formV V).toArray⟩ : ByteArray)) := ⟨_, rfl⟩
    have hsz : sV.size = (formV V).length := by rw [hsV.out]; rfl
    rw [size_len] at hsh
    have hle : (sV.size : Int) ≤ (s.size : Int) := by omega
    clear hR1 hmay
    go_enter Tryz.func10, Tryz.ntmps10
    go_wp2_with fail
    refine (canonAwake_any _ henv.toTabEnv).mono ?_
    rintro e w3 ⟨rfl, hb3⟩
    have henv3 := Lib.hid (henv.below hb3)
    go_wp2_with fail
    refine (HR.out _ henv3.out).mono ?_
    rintro e w4 ⟨hb4, ⟨xk, xn, xt, xa, xl, xc, xb, xm, xe⟩, rfl, hnew⟩
    have hba : Below w4.heap.size w4 (w4.alloc (.cells #[.int .u8 xk, .int .i64 xn, .string xt, .slice xa xl xc, .slice xb xm xe] 26)) := bel_alloc (Below.refl _ _) _
    have HP5 : Hid (ValAt (pureW (w4.alloc (.cells #[.int .u8 xk, .int .i64 xn, .string xt, .slice xa xl xc, .slice xb xm xe] 26))) V (VC.val ⟨xk, xn, xt, xa, xl, xc, xb, xm, xe⟩)) := hnew.pure hba
    have HV5 : Hid (ValAt (w4.alloc (.cells #[.int .u8 xk, .int .i64 xn, .string xt, .slice xa xl xc, .slice xb xm xe] 26)) V (VC.val ⟨xk, xn, xt, xa, xl, xc, xb, xm, xe⟩)) := hnew.bare.keep hba
    have HK5 : Hid (BlkAt (w4.alloc (.cells #[.int .u8 xk, .int .i64 xn, .string xt, .slice xa xl xc, .slice xb xm xe] 26)) w4.heap.size 26 #[.int .u8 xk, .int .i64 xn, .string xt, .slice xa xl xc, .slice xb xm xe]) := blkAt_new w4 _ _
    have hB5 := below_more hb3 (below_more hb4 hba)
    have henv5 := Lib.hid (henv.below hB5)
    clear hnew hba
    simp only [VC.val]
    go_wp2_with fail
    generalize w4.alloc (.cells #[.int .u8 xk, .int .i64 xn, .string xt, .slice xa xl xc, .slice xb xm xe] 26) = w5 at *
    generalize w4.heap.size = vb at *
    refine (Encode_yes V _ _ HV5.out henv5.out.toTabEnv HM sV hsV).mono ?_
    rintro e w6 ⟨rfl, hb6⟩
    obtain ⟨k0, k1, k2, k3, k4, -⟩ := blk5 (BlkAt.keep HK5.out hb6)
    have HP6 : Hid (ValAt (pureW w6) V (VC.val ⟨xk, xn, xt, xa, xl, xc, xb, xm, xe⟩)) := HP5.out.imp (pure_keep hb6)
    have henv6 := Lib.hid (henv5.out.below hb6)
    go_wp2_with fail
    refine (Copy_any V _ _ HP6.out hwt).mono ?_
    rintro e w7 ⟨⟨yk, yn, yt, ya, yl, yc, yb, ym, ye⟩, rfl, hb7, hnew7⟩
    simp only [VC.val]
    have HV7 := Lib.hid hnew7.bare
    go_wp2_with fail
    refine (Encode_yes V _ _ HV7.out (henv6.out.below hb7).toTabEnv HM sV hsV).mono ?_
    rintro e w8 ⟨rfl, hb8⟩
    go_wp2_with fail
    go_ret
    exact ⟨by simp, below_more (below_more (below_more hB5 hb6) hb7) hb8⟩
end Go.Proofs.YtngebebhaehmnaaGreatDoor
