/-
  legatelaw09.fits.
-/
import Derived.Test.YtngebebhaehmnaaGreatDoorReadList
import Derived.Test.YtngebebhaehmnaaGreatDoorValRef2
import Derived.IntWalk
import Derived.Deep.RegionHeld3
namespace Go.Proofs.YtngebebhaehmnaaGreatDoor
open Go.RowKit

set_option maxRecDepth 100000 in
set_option maxHeartbeats 2000000 in
theorem fits_any (V W : JV) (v u : Value) (w : World) (hV : ValAt w V v) (hW : ValAt w W u) (hc1 : countV V ≤ 8192) (hc2 : countV W ≤ 8192) (m d1 d2 : Bool) (hm : Hid (decide (8192 < countV V + countV W + 1) = m)) (hd1 : Hid (decide (12 ≤ depthV V) = d1)) (hd2 : Hid (decide (12 ≤ depthV W) = d2)) :
    Calls Tryz.prog 20 #[v, u] w fun e w' => e = .returned (.tuple #[.bool m, .bool (d1 || d2)]) ∧ Below w.heap.size w w' := by
  obtain ⟨⟨xk, xn, xt, xa, xl, xc, xb, xm, xe⟩, rfl⟩ := valAt_vc hV
  obtain ⟨⟨yk, yn, yt, ya, yl, yc, yb, ym, ye⟩, rfl⟩ := valAt_vc hW
  simp only [VC.val] at hV hW ⊢
  obtain ⟨cv, hcv⟩ : ∃ c, countV V = c := ⟨_, rfl⟩
  obtain ⟨cw, hcw⟩ : ∃ c, countV W = c := ⟨_, rfl⟩
  obtain ⟨dv, hdv⟩ : ∃ c, depthV V = c := ⟨_, rfl⟩
  obtain ⟨dw, hdw⟩ : ∃ c, depthV W = c := ⟨_, rfl⟩
  have K1 := Lib.hid (fun w' v' (h : ValAt w' V v') => refCount_any _ V v' w' (Nat.lt_succ_self _) h (by omega))
  have K2 := Lib.hid (fun w' v' (h : ValAt w' W v') => refCount_any _ W v' w' (Nat.lt_succ_self _) h (by omega))
  have K3 := Lib.hid (fun w' v' (h : ValAt w' V v') => refDepth_any _ V v' w' (Nat.lt_succ_self _) h (by omega))
  have K4 := Lib.hid (fun w' v' (h : ValAt w' W v') => refDepth_any _ W v' w' (Nat.lt_succ_self _) h (by omega))
  have q1 := hm.out
  have q2 := hd1.out
  have q3 := hd2.out
  rw [hcv, hcw] at q1
  rw [hdv] at q2 K3
  rw [hdw] at q3 K4
  rw [hcv] at K1 hc1
  rw [hcw] at K2 hc2
  clear hm hd1 hd2 hcv hcw hdv hdw
  have g1 : decide ((8192 : Int) < (cv : Int) + (cw : Int) + 1) = m := by rw [← q1]; congr 1; exact propext (by omega)
  have g2 : decide ((12 : Int) ≤ (dv : Int)) = d1 := by rw [← q2]; congr 1; exact propext (by omega)
  have g3 : decide ((12 : Int) ≤ (dw : Int)) = d2 := by rw [← q3]; congr 1; exact propext (by omega)
  clear q1 q2 q3
  obtain ⟨w2, hw2⟩ : ∃ x, x = (w.alloc (.cells #[.int .u8 xk, .int .i64 xn, .string xt, .slice xa xl xc, .slice xb xm xe] 26)).alloc (.cells #[.int .u8 yk, .int .i64 yn, .string yt, .slice ya yl yc, .slice yb ym ye] 26) := ⟨_, rfl⟩
  have hB2 : Below w.heap.size w w2 := by rw [hw2]; exact bel_alloc (bel_alloc (Below.refl _ _) _) _
  have HA : Hid (BlkAt w2 w.heap.size 26 #[.int .u8 xk, .int .i64 xn, .string xt, .slice xa xl xc, .slice xb xm xe]) := by rw [hw2]; exact (blkAt_new w _ _).alloc _
  have HB : Hid (BlkAt w2 (w.heap.size + 1) 26 #[.int .u8 yk, .int .i64 yn, .string yt, .slice ya yl yc, .slice yb ym ye]) := by
    have := blkAt_new (w.alloc (.cells #[.int .u8 xk, .int .i64 xn, .string xt, .slice xa xl xc, .slice xb xm xe] 26)) #[.int .u8 yk, .int .i64 yn, .string yt, .slice ya yl yc, .slice yb ym ye] 26
    rw [size_al] at this
    rw [hw2]
    exact this
  have HV2 := Lib.hid (hV.keep hB2)
  have HW2 := Lib.hid (hW.keep hB2)
  have HW := Lib.hid hw2
  clear hw2 hV hW
  obtain ⟨a0, a1, a2, a3, a4, -⟩ := blk5 HA.out
  obtain ⟨b0, b1, b2, b3, b4, -⟩ := blk5 HB.out
  have i1 : IntKind.i64.wrap ((cv : Int) + (cw : Int)) = (cv : Int) + (cw : Int) := IntWalk.i64_in _ (by omega)
  have i2 : IntKind.i64.wrap ((cv : Int) + (cw : Int) + 1) = (cv : Int) + (cw : Int) + 1 := IntWalk.i64_in _ (by omega)
  cases d1 with
  | true =>
    go_enter Tryz.func20, Tryz.ntmps20
    go_wp2_with fail
    rw [← HW.out]
    go_region_with (first
      | (go_at_call 33; (with_reducible refine (K1.out _ _ (HV2.out.keep (by (repeat (first | assumption | exact Below.refl _ _ | refine bel_drew ?_ | refine bel_alloc ?_ _ | refine below_more ?_ (by assumption)))))).mono ?_); rintro e w4 ⟨rfl, hb4⟩; have a0 := cell_keep hb4 a0; have a1 := cell_keep hb4 a1; have a2 := cell_keep hb4 a2; have a3 := cell_keep hb4 a3; have a4 := cell_keep hb4 a4; have b0 := cell_keep hb4 b0; have b1 := cell_keep hb4 b1; have b2 := cell_keep hb4 b2; have b3 := cell_keep hb4 b3; have b4 := cell_keep hb4 b4)
      | (go_at_call 33; (with_reducible refine (K2.out _ _ (HW2.out.keep (by (repeat (first | assumption | exact Below.refl _ _ | refine bel_drew ?_ | refine bel_alloc ?_ _ | refine below_more ?_ (by assumption)))))).mono ?_); rintro e w5 ⟨rfl, hb5⟩; have a0 := cell_keep hb5 a0; have a1 := cell_keep hb5 a1; have a2 := cell_keep hb5 a2; have a3 := cell_keep hb5 a3; have a4 := cell_keep hb5 a4; have b0 := cell_keep hb5 b0; have b1 := cell_keep hb5 b1; have b2 := cell_keep hb5 b2; have b3 := cell_keep hb5 b3; have b4 := cell_keep hb5 b4)
      | (go_at_call 34; (with_reducible refine (K3.out _ _ (HV2.out.keep (by (repeat (first | assumption | exact Below.refl _ _ | refine bel_drew ?_ | refine bel_alloc ?_ _ | refine below_more ?_ (by assumption)))))).mono ?_); rintro e w6 ⟨rfl, hb6⟩; have a0 := cell_keep hb6 a0; have a1 := cell_keep hb6 a1; have a2 := cell_keep hb6 a2; have a3 := cell_keep hb6 a3; have a4 := cell_keep hb6 a4; have b0 := cell_keep hb6 b0; have b1 := cell_keep hb6 b1; have b2 := cell_keep hb6 b2; have b3 := cell_keep hb6 b3; have b4 := cell_keep hb6 b4)
      | (go_at_call 34; (with_reducible refine (K4.out _ _ (HW2.out.keep (by (repeat (first | assumption | exact Below.refl _ _ | refine bel_drew ?_ | refine bel_alloc ?_ _ | refine below_more ?_ (by assumption)))))).mono ?_); rintro e w7 ⟨rfl, hb7⟩; have a0 := cell_keep hb7 a0; have a1 := cell_keep hb7 a1; have a2 := cell_keep hb7 a2; have a3 := cell_keep hb7 a3; have a4 := cell_keep hb7 a4; have b0 := cell_keep hb7 b0; have b1 := cell_keep hb7 b1; have b2 := cell_keep hb7 b2; have b3 := cell_keep hb7 b3; have b4 := cell_keep hb7 b4))
    all_goals (go_wp2_with fail; (try go_simp); go_ret2; exact ⟨by simp, below_more hB2 (by (repeat (first | assumption | exact Below.refl _ _ | refine bel_drew ?_ | refine bel_alloc ?_ _ | refine below_more ?_ (by assumption))))⟩)
  | false =>
    go_enter Tryz.func20, Tryz.ntmps20
    go_wp2_with fail
    rw [← HW.out]
    go_region_held3 (fun w' => Below w2.heap.size w2 w' ∧ w'.cell? ⟨w.heap.size, 0, none⟩ = some (.int .u8 xk) ∧ w'.cell? ⟨w.heap.size, 1, none⟩ = some (.int .i64 xn) ∧ w'.cell? ⟨w.heap.size, 2, none⟩ = some (.string xt) ∧ w'.cell? ⟨w.heap.size, 3, none⟩ = some (.slice xa xl xc) ∧ w'.cell? ⟨w.heap.size, 4, none⟩ = some (.slice xb xm xe) ∧ w'.cell? ⟨w.heap.size + 1, 0, none⟩ = some (.int .u8 yk) ∧ w'.cell? ⟨w.heap.size + 1, 1, none⟩ = some (.int .i64 yn) ∧ w'.cell? ⟨w.heap.size + 1, 2, none⟩ = some (.string yt) ∧ w'.cell? ⟨w.heap.size + 1, 3, none⟩ = some (.slice ya yl yc) ∧ w'.cell? ⟨w.heap.size + 1, 4, none⟩ = some (.slice yb ym ye))
      ((refine (fun h => ⟨h, cell_keep h a0, cell_keep h a1, cell_keep h a2, cell_keep h a3, cell_keep h a4, cell_keep h b0, cell_keep h b1, cell_keep h b2, cell_keep h b3, cell_keep h b4⟩ : Below w2.heap.size w2 _ → _) ?_; go_split_ands; (repeat (first | assumption | exact Below.refl _ _ | refine bel_drew ?_ | refine bel_alloc ?_ _ | refine below_more ?_ (by assumption)))))
      (first
      | (go_at_call 33; (with_reducible refine (K1.out _ _ (HV2.out.keep (by (repeat (first | assumption | exact Below.refl _ _ | refine bel_drew ?_ | refine bel_alloc ?_ _ | refine below_more ?_ (by assumption)))))).mono ?_); rintro e w4 ⟨rfl, hb4⟩)
      | (go_at_call 33; (with_reducible refine (K2.out _ _ (HW2.out.keep (by (repeat (first | assumption | exact Below.refl _ _ | refine bel_drew ?_ | refine bel_alloc ?_ _ | refine below_more ?_ (by assumption)))))).mono ?_); rintro e w5 ⟨rfl, hb5⟩)
      | (go_at_call 34; (with_reducible refine (K3.out _ _ (HV2.out.keep (by (repeat (first | assumption | exact Below.refl _ _ | refine bel_drew ?_ | refine bel_alloc ?_ _ | refine below_more ?_ (by assumption)))))).mono ?_); rintro e w6 ⟨rfl, hb6⟩)
      | (go_at_call 34; (with_reducible refine (K4.out _ _ (HW2.out.keep (by (repeat (first | assumption | exact Below.refl _ _ | refine bel_drew ?_ | refine bel_alloc ?_ _ | refine below_more ?_ (by assumption)))))).mono ?_); rintro e w7 ⟨rfl, hb7⟩))
    all_goals (go_wp2_with fail; go_ret2; exact ⟨by simp, below_more hB2 (by go_split_ands; assumption)⟩)
end Go.Proofs.YtngebebhaehmnaaGreatDoor
