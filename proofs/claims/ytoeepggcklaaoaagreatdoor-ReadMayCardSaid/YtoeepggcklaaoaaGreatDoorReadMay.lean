/-
  The walk of the law ReadMay.
-/
import Derived.Test.YtoeepggcklaaoaaGreatDoorReadAwake
import Derived.Test.YtoeepggcklaaoaaGreatDoorReadMayP
import Derived.Test.YtoeepggcklaaoaaGreatDoorValRef3
import Derived.IntWalk
namespace Go.Proofs.YtoeepggcklaaoaaGreatDoor
open Go.RowKit

def noV : JV := .mk 0 0 ⟨#[]⟩ [] []
theorem valAt_no (w : World) : ValAt w noV zeroV := valAt_leaf w 0 0 ⟨#[]⟩ (by decide) (by decide) (by decide) (by decide) (by decide)
set_option maxRecDepth 100000 in
set_option maxHeartbeats 8000000 in
theorem readMay_walk (s : ByteArray) (w : World) (w0 : s.size ≤ maxLen) (henv : NumEnv w) :
    Calls Tryz.prog 9 #[.string s] w fun e w' => e = .returned (.bool true) ∧ Below w.heap.size w w' := by
  unfold maxLen at w0
  by_cases hl : 20000 < s.size
  · have hd : decide (20000 < (s.size : Int)) = true := by simp; omega
    go_enter Tryz.func9, Tryz.ntmps9
    go_wp2_with fail
    refine (awake9_any _ henv).mono ?_
    rintro e w3 ⟨rfl, hb3⟩
    go_wp2_with fail
    go_ret
    exact ⟨rfl, hb3⟩
  have hd : decide (20000 < (s.size : Int)) = false := by simp; omega
  obtain ⟨R1, hR1⟩ : ∃ R1, readV s.data.toList = R1 := ⟨_, rfl⟩
  have HR := Lib.hid (fun W hE => read_any s W (by omega) hE R1 (Lib.hid hR1))
  cases R1 with
  | bad p er =>
    have hp : p ≤ s.size := by have := readV_in hR1; rwa [size_len] at this
    have hp1 : (p : Int) ≤ (s.size : Int) := by omega
    have hp0 : (0 : Int) ≤ (p : Int) := by omega
    clear hR1
    go_enter Tryz.func9, Tryz.ntmps9
    go_wp2_with fail
    refine (awake9_any _ henv).mono ?_
    rintro e w3 ⟨rfl, hb3⟩
    go_wp2_with fail
    refine (HR.out _ (henv.below hb3)).mono ?_
    rintro e w4 ⟨hb4, rfl, hne⟩
    have heb : (er != 0) = true := by rw [bne_iff_ne]; exact hne
    simp only [zeroV]
    go_wp2_with fail
    refine (Same_any noV noV _ _ _ (valAt_no _) (valAt_no _)).mono ?_
    rintro e w5 ⟨rfl, hb5⟩
    rw [sameV_self]
    go_wp2_with fail
    go_ret
    exact ⟨rfl, below_more (bel_alloc (below_more hb3 hb4) _) hb5⟩
  | ok V ms c =>
    have hmay := (read_may hR1).1
    have HM := Lib.hid hmay
    have HW := Lib.hid (wt_may hmay)
    clear hR1 hmay
    go_enter Tryz.func9, Tryz.ntmps9
    go_wp2_with fail
    refine (awake9_any _ henv).mono ?_
    rintro e w3 ⟨rfl, hb3⟩
    go_wp2_with fail
    refine (HR.out _ (henv.below hb3)).mono ?_
    rintro e w4 ⟨hb4, ⟨xk, xn, xt, xa, xl, xc, xb, xm, xe⟩, rfl, hnew⟩
    have hV5 : ValAt (w4.alloc (.cells #[.int .u8 xk, .int .i64 xn, .string xt, .slice xa xl xc, .slice xb xm xe] 26)) V (VC.val ⟨xk, xn, xt, xa, xl, xc, xb, xm, xe⟩) := hnew.bare.keep (bel_alloc (Below.refl _ _) _)
    have hK5 := blkAt_new w4 #[.int .u8 xk, .int .i64 xn, .string xt, .slice xa xl xc, .slice xb xm xe] 26
    have hB5 := bel_alloc (below_more hb3 hb4) (.cells #[.int .u8 xk, .int .i64 xn, .string xt, .slice xa xl xc, .slice xb xm xe] 26)
    have HV5 := Lib.hid hV5
    have HK5 := Lib.hid hK5
    clear hV5 hK5 hnew
    simp only [VC.val]
    go_wp2_with fail
    generalize w4.alloc (.cells #[.int .u8 xk, .int .i64 xn, .string xt, .slice xa xl xc, .slice xb xm xe] 26) = w5 at HV5 HK5 hB5 ⊢
    generalize w4.heap.size = vb at HK5 ⊢
    refine (refMay_any V _ w5 HV5.out HW.out true HM).mono ?_
    rintro e w6 ⟨rfl, hb6⟩
    have HV6 : Hid (ValAt w6 V (VC.val ⟨xk, xn, xt, xa, xl, xc, xb, xm, xe⟩)) := HV5.out.keep hb6
    obtain ⟨k0, k1, k2, k3, k4, kf⟩ := blk5 (BlkAt.keep HK5.out hb6)
    go_wp2_with fail
    refine (May_any V _ w6 HV6.out).mono ?_
    rintro e w7 ⟨rfl, hb7⟩
    rw [HM.out]
    go_wp2_with fail
    go_ret
    exact ⟨rfl, below_more (below_more hB5 hb6) hb7⟩
end Go.Proofs.YtoeepggcklaaoaaGreatDoor
