/-
  The walk of the law ReadReads.
-/
import Derived.Test.YtfdecbfcddkoiaaGreatDoorWkRead
import Derived.Test.YtfdecbfcddkoiaaGreatDoorReadAwake
import Derived.IntWalk
namespace Go.Proofs.YtfdecbfcddkoiaaGreatDoor
open Go.RowKit

def noneV : JV := .mk 0 0 ⟨#[]⟩ [] []
theorem valAt_none (w : World) : ValAt w noneV (.agg #[.int .u8 0, .int .i64 0, .string ⟨#[]⟩, .slice none 0 0, .slice none 0 0]) := valAt_leaf w 0 0 ⟨#[]⟩ (by decide) (by decide) (by decide) (by decide) (by decide)
set_option maxRecDepth 100000 in
set_option maxHeartbeats 8000000 in
theorem readReads_walk (s : ByteArray) (w : World) (w0 : s.size ≤ maxLen) (henv : NumEnv w) :
    Calls Tryz.prog 3 #[.string s] w fun e w' => e = .returned (.bool true) ∧ Below w.heap.size w w' := by
  have hsm : s.size ≤ 9223372036854775807 := Nat.le_trans w0 (by decide)
  by_cases hl : 20000 < s.size
  · have hd : (20000 : Int) < (s.size : Int) := by omega
    go_enter Tryz.func3, Tryz.ntmps3
    go_wp2_with fail
    refine (awake9_any _ henv).mono ?_
    rintro e w3 ⟨rfl, hb3⟩
    go_wp2_with fail
    go_ret
    exact ⟨rfl, hb3⟩
  have hd : ¬ (20000 : Int) < (s.size : Int) := by omega
  obtain ⟨R1, hR1⟩ : ∃ R1, readV s.data.toList = R1 := ⟨_, rfl⟩
  have HR := Lib.hid (fun W hE => read_any s W hsm hE R1 (Lib.hid hR1))
  have HW := Lib.hid (fun W => wread_any s W hsm R1 (Lib.hid hR1))
  clear hR1
  cases R1 with
  | bad p er =>
    go_enter Tryz.func3, Tryz.ntmps3
    go_wp2_with fail
    refine (HR.out _ henv).mono ?_
    rintro e w3 ⟨hb3, rfl, hne⟩
    have hB3 := bel_alloc hb3 (.cells #[.int .u8 0, .int .i64 0, .string ⟨#[]⟩, .slice none 0 0, .slice none 0 0] 26)
    have HA3 : Hid (BlkAt (w3.alloc (.cells #[.int .u8 0, .int .i64 0, .string ⟨#[]⟩, .slice none 0 0, .slice none 0 0] 26)) w3.heap.size 26 #[.int .u8 0, .int .i64 0, .string ⟨#[]⟩, .slice none 0 0, .slice none 0 0]) := blkAt_new w3 _ _
    simp only [zeroV]
    go_wp2_with fail
    generalize w3.alloc (.cells #[.int .u8 0, .int .i64 0, .string ⟨#[]⟩, .slice none 0 0, .slice none 0 0] 26) = w4 at hB3 HA3 ⊢
    generalize w3.heap.size = vb at HA3 ⊢
    refine (HW.out _).mono ?_
    rintro e w5 ⟨hb5, rfl⟩
    have hB5 := bel_alloc (below_more hB3 hb5) (.cells #[.int .u8 0, .int .i64 0, .string ⟨#[]⟩, .slice none 0 0, .slice none 0 0] 26)
    have hbA : Below w5.heap.size w5 (w5.alloc (.cells #[.int .u8 0, .int .i64 0, .string ⟨#[]⟩, .slice none 0 0, .slice none 0 0] 26)) := bel_alloc (Below.refl _ _) _
    obtain ⟨a0, a1, a2, a3, a4, -⟩ := blk5 (BlkAt.keep (BlkAt.keep HA3.out hb5) hbA)
    obtain ⟨b0, b1, b2, b3, b4, -⟩ := blk5 (blkAt_new w5 #[.int .u8 0, .int .i64 0, .string ⟨#[]⟩, .slice none 0 0, .slice none 0 0] 26)
    have henv6 := Lib.hid (henv.below hB5)
    simp only [zeroV]
    go_wp2_with fail
    refine (Same_any noneV noneV _ _ _ (valAt_none _) (valAt_none _)).mono ?_
    rintro e w6 ⟨rfl, hb6⟩
    rw [sameV_self]
    go_wp2_with fail
    refine (awake9_any _ (henv6.out.below hb6)).mono ?_
    rintro e w7 ⟨rfl, hb7⟩
    go_wp2_with fail
    go_ret
    exact ⟨rfl, below_more (below_more hB5 hb6) hb7⟩
  | ok V ms c =>
    go_enter Tryz.func3, Tryz.ntmps3
    go_wp2_with fail
    refine (HR.out _ henv).mono ?_
    rintro e w3 ⟨hb3, ⟨xk, xn, xt, xa, xl, xc, xb, xm, xe⟩, rfl, hnew⟩
    have hB3 := bel_alloc hb3 (.cells #[.int .u8 xk, .int .i64 xn, .string xt, .slice xa xl xc, .slice xb xm xe] 26)
    have HA3 : Hid (BlkAt (w3.alloc (.cells #[.int .u8 xk, .int .i64 xn, .string xt, .slice xa xl xc, .slice xb xm xe] 26)) w3.heap.size 26 #[.int .u8 xk, .int .i64 xn, .string xt, .slice xa xl xc, .slice xb xm xe]) := blkAt_new w3 _ _
    have HV3 : Hid (ValAt (w3.alloc (.cells #[.int .u8 xk, .int .i64 xn, .string xt, .slice xa xl xc, .slice xb xm xe] 26)) V (VC.val ⟨xk, xn, xt, xa, xl, xc, xb, xm, xe⟩)) := hnew.bare.keep (bel_alloc (Below.refl _ _) _)
    clear hnew
    simp only [VC.val]
    go_wp2_with fail
    generalize w3.alloc (.cells #[.int .u8 xk, .int .i64 xn, .string xt, .slice xa xl xc, .slice xb xm xe] 26) = w4 at hB3 HA3 HV3 ⊢
    generalize w3.heap.size = vb at HA3 ⊢
    refine (HW.out _).mono ?_
    rintro e w5 ⟨hb5, ⟨yk, yn, yt, ya, yl, yc, yb, ym, ye⟩, rfl, hnew⟩
    have hB5 := bel_alloc (below_more hB3 hb5) (.cells #[.int .u8 yk, .int .i64 yn, .string yt, .slice ya yl yc, .slice yb ym ye] 26)
    have hbA : Below w5.heap.size w5 (w5.alloc (.cells #[.int .u8 yk, .int .i64 yn, .string yt, .slice ya yl yc, .slice yb ym ye] 26)) := bel_alloc (Below.refl _ _) _
    obtain ⟨a0, a1, a2, a3, a4, -⟩ := blk5 (BlkAt.keep (BlkAt.keep HA3.out hb5) hbA)
    obtain ⟨b0, b1, b2, b3, b4, -⟩ := blk5 (blkAt_new w5 #[.int .u8 yk, .int .i64 yn, .string yt, .slice ya yl yc, .slice yb ym ye] 26)
    have HV5 : Hid (ValAt (w5.alloc (.cells #[.int .u8 yk, .int .i64 yn, .string yt, .slice ya yl yc, .slice yb ym ye] 26)) V (VC.val ⟨xk, xn, xt, xa, xl, xc, xb, xm, xe⟩)) := (HV3.out.keep hb5).keep hbA
    have HU5 : Hid (ValAt (w5.alloc (.cells #[.int .u8 yk, .int .i64 yn, .string yt, .slice ya yl yc, .slice yb ym ye] 26)) V (VC.val ⟨yk, yn, yt, ya, yl, yc, yb, ym, ye⟩)) := hnew.bare.keep hbA
    have henv6 := Lib.hid (henv.below hB5)
    clear hnew hbA
    simp only [VC.val]
    go_wp2_with fail
    refine (Same_any V V _ _ _ HV5.out HU5.out).mono ?_
    rintro e w6 ⟨rfl, hb6⟩
    rw [sameV_self]
    go_wp2_with fail
    refine (awake9_any _ (henv6.out.below hb6)).mono ?_
    rintro e w7 ⟨rfl, hb7⟩
    go_wp2_with fail
    go_ret
    exact ⟨rfl, below_more (below_more hB5 hb6) hb7⟩
end Go.Proofs.YtfdecbfcddkoiaaGreatDoor
