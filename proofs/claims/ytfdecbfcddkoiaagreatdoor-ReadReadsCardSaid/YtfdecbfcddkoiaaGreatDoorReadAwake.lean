/-
  legatelaw09.awake: the examples.
-/
import Derived.Test.YtfdecbfcddkoiaaGreatDoorReadRead
import Derived.Test.YtfdecbfcddkoiaaGreatDoorSame
import Derived.Test.YtfdecbfcddkoiaaGreatDoorReadP
namespace Go.Proofs.YtfdecbfcddkoiaaGreatDoor
open Go.RowKit

def exRead : JV := .mk 5 0 ⟨#[]⟩ [⟨#[97]⟩, ⟨#[98]⟩] [.mk 3 0 ⟨#[120]⟩ [] [], .mk 4 0 ⟨#[]⟩ [] [.mk 2 1 ⟨#[]⟩ [] [], .mk 1 1 ⟨#[]⟩ [] []]]
theorem readA : readV (⟨#[123, 34, 98, 34, 58, 91, 49, 44, 116, 114, 117, 101, 93, 44, 34, 97, 34, 58, 34, 120, 34, 125]⟩ : ByteArray).data.toList = .ok exRead [] 5 := by kernel_rfl
theorem readB : readV (⟨#[91, 49, 32, 50, 93]⟩ : ByteArray).data.toList = .bad 3 3 := by kernel_rfl
theorem readC : readV (⟨#[123, 34, 97, 34, 58, 49, 44, 34, 97, 34, 58, 50, 125]⟩ : ByteArray).data.toList = .bad 7 7 := by kernel_rfl
theorem readD : readV (⟨#[49, 32, 50]⟩ : ByteArray).data.toList = .bad 2 11 := by kernel_rfl
set_option maxRecDepth 100000 in
set_option maxHeartbeats 4000000 in
theorem awake9_any (w : World) (henv : NumEnv w) :
    Calls Tryz.prog 5 #[] w fun e w' => e = .returned (.bool true) ∧ Below w.heap.size w w' := by
  have HA := Lib.hid (fun W hE => read_any (⟨#[123, 34, 98, 34, 58, 91, 49, 44, 116, 114, 117, 101, 93, 44, 34, 97, 34, 58, 34, 120, 34, 125]⟩ : ByteArray) W (by decide) hE _ (Lib.hid readA))
  have HB := Lib.hid (fun W hE => read_any (⟨#[91, 49, 32, 50, 93]⟩ : ByteArray) W (by decide) hE _ (Lib.hid readB))
  have HC := Lib.hid (fun W hE => read_any (⟨#[123, 34, 97, 34, 58, 49, 44, 34, 97, 34, 58, 50, 125]⟩ : ByteArray) W (by decide) hE _ (Lib.hid readC))
  have HD := Lib.hid (fun W hE => read_any (⟨#[49, 32, 50]⟩ : ByteArray) W (by decide) hE _ (Lib.hid readD))
  go_enter Tryz.func5, Tryz.ntmps5
  go_wp2_with fail
  refine (HA.out _ henv).mono ?_
  rintro e w1 ⟨hb1, ⟨xk, xn, xt, xa, xl, xc, xb, xm, xe⟩, rfl, hnew⟩
  simp only [VC.val]
  have HV := Lib.hid hnew.bare
  have hB1 : Below w.heap.size w (w1.alloc (.cells #[.int .u8 xk, .int .i64 xn, .string xt, .slice xa xl xc, .slice xb xm xe] 26)) := bel_alloc hb1 _
  have hK1 : BlkAt (w1.alloc (.cells #[.int .u8 xk, .int .i64 xn, .string xt, .slice xa xl xc, .slice xb xm xe] 26)) w1.heap.size 26 #[.int .u8 xk, .int .i64 xn, .string xt, .slice xa xl xc, .slice xb xm xe] := blkAt_new _ _ _
  have hV1 : ValAt (w1.alloc (.cells #[.int .u8 xk, .int .i64 xn, .string xt, .slice xa xl xc, .slice xb xm xe] 26)) exRead (VC.val ⟨xk, xn, xt, xa, xl, xc, xb, xm, xe⟩) := HV.out.keep (bel_alloc (Below.refl _ _) _)
  clear hnew HV
  go_wp2_with fail
  generalize w1.alloc (.cells #[.int .u8 xk, .int .i64 xn, .string xt, .slice xa xl xc, .slice xb xm xe] 26) = w2 at hB1 hK1 hV1 ⊢
  generalize w1.heap.size = vb at hK1 ⊢
  refine (HB.out _ (henv.below hB1)).mono ?_
  rintro e w3 ⟨hb3, rfl, -⟩
  simp only [zeroV]
  go_wp2_with fail
  have hB3 : Below w2.heap.size w2 (w3.alloc (.cells #[.int .u8 0, .int .i64 0, .string ⟨#[]⟩, .slice none 0 0, .slice none 0 0] 26)) := bel_alloc hb3 _
  generalize w3.alloc (.cells #[.int .u8 0, .int .i64 0, .string ⟨#[]⟩, .slice none 0 0, .slice none 0 0] 26) = w4 at hB3 ⊢
  clear hb3
  refine (HC.out _ ((henv.below hB1).below hB3)).mono ?_
  rintro e w5 ⟨hb5, rfl, -⟩
  simp only [zeroV]
  go_wp2_with fail
  have hB5 : Below w2.heap.size w2 (w5.alloc (.cells #[.int .u8 0, .int .i64 0, .string ⟨#[]⟩, .slice none 0 0, .slice none 0 0] 26)) := bel_alloc (below_more hB3 hb5) _
  generalize w5.alloc (.cells #[.int .u8 0, .int .i64 0, .string ⟨#[]⟩, .slice none 0 0, .slice none 0 0] 26) = w6 at hB5 ⊢
  clear hb5 hB3
  refine (HD.out _ ((henv.below hB1).below hB5)).mono ?_
  rintro e w7 ⟨hb7, rfl, -⟩
  have hB7 := below_more hB5 hb7
  have hK7 : BlkAt w7 vb 26 #[.int .u8 xk, .int .i64 xn, .string xt, .slice xa xl xc, .slice xb xm xe] := BlkAt.keep hK1 hB7
  have hV7 : ValAt w7 exRead (VC.val ⟨xk, xn, xt, xa, xl, xc, xb, xm, xe⟩) := hV1.keep hB7
  have hBB := Lib.hid (below_more hB1 hB7)
  have hlt7 := hK7.lt
  have hbW : Below w7.heap.size w7 (((((w7.alloc (.cells #[.int .u8 0, .int .i64 0, .string ⟨#[]⟩, .slice none 0 0, .slice none 0 0] 26)).alloc (.cells #[.string ⟨#[97]⟩, .string ⟨#[98]⟩] 9)).alloc (.cells #[.int .u8 2, .int .i64 1, .string ⟨#[]⟩, .slice none 0 0, .slice none 0 0, .int .u8 1, .int .i64 1, .string ⟨#[]⟩, .slice none 0 0, .slice none 0 0] 26)).alloc (.cells #[.int .u8 3, .int .i64 0, .string ⟨#[120]⟩, .slice none 0 0, .slice none 0 0, .int .u8 4, .int .i64 0, .string ⟨#[]⟩, .slice none 0 0, .slice (some ⟨w7.heap.size + 1 + 1, 0, none⟩) 2 2] 26)).alloc (.cells #[.int .u8 5, .int .i64 0, .string ⟨#[]⟩, .slice (some ⟨w7.heap.size + 1, 0, none⟩) 2 2, .slice (some ⟨w7.heap.size + 1 + 1 + 1, 0, none⟩) 2 2] 26)) := bel_alloc (bel_alloc (bel_alloc (bel_alloc (bel_alloc (Below.refl _ _) _) _) _) _) _
  obtain ⟨k0, k1, k2, k3, k4, -⟩ := blk5 (BlkAt.keep hK7 hbW)
  have HVW : Hid (ValAt (((((w7.alloc (.cells #[.int .u8 0, .int .i64 0, .string ⟨#[]⟩, .slice none 0 0, .slice none 0 0] 26)).alloc (.cells #[.string ⟨#[97]⟩, .string ⟨#[98]⟩] 9)).alloc (.cells #[.int .u8 2, .int .i64 1, .string ⟨#[]⟩, .slice none 0 0, .slice none 0 0, .int .u8 1, .int .i64 1, .string ⟨#[]⟩, .slice none 0 0, .slice none 0 0] 26)).alloc (.cells #[.int .u8 3, .int .i64 0, .string ⟨#[120]⟩, .slice none 0 0, .slice none 0 0, .int .u8 4, .int .i64 0, .string ⟨#[]⟩, .slice none 0 0, .slice (some ⟨w7.heap.size + 1 + 1, 0, none⟩) 2 2] 26)).alloc (.cells #[.int .u8 5, .int .i64 0, .string ⟨#[]⟩, .slice (some ⟨w7.heap.size + 1, 0, none⟩) 2 2, .slice (some ⟨w7.heap.size + 1 + 1 + 1, 0, none⟩) 2 2] 26)) exRead (VC.val ⟨xk, xn, xt, xa, xl, xc, xb, xm, xe⟩)) := hV7.keep hbW
  have HWW : Hid (ValAt (((((w7.alloc (.cells #[.int .u8 0, .int .i64 0, .string ⟨#[]⟩, .slice none 0 0, .slice none 0 0] 26)).alloc (.cells #[.string ⟨#[97]⟩, .string ⟨#[98]⟩] 9)).alloc (.cells #[.int .u8 2, .int .i64 1, .string ⟨#[]⟩, .slice none 0 0, .slice none 0 0, .int .u8 1, .int .i64 1, .string ⟨#[]⟩, .slice none 0 0, .slice none 0 0] 26)).alloc (.cells #[.int .u8 3, .int .i64 0, .string ⟨#[120]⟩, .slice none 0 0, .slice none 0 0, .int .u8 4, .int .i64 0, .string ⟨#[]⟩, .slice none 0 0, .slice (some ⟨w7.heap.size + 1 + 1, 0, none⟩) 2 2] 26)).alloc (.cells #[.int .u8 5, .int .i64 0, .string ⟨#[]⟩, .slice (some ⟨w7.heap.size + 1, 0, none⟩) 2 2, .slice (some ⟨w7.heap.size + 1 + 1 + 1, 0, none⟩) 2 2] 26)) exRead (.agg #[.int .u8 5, .int .i64 0, .string ⟨#[]⟩, .slice (some ⟨w7.heap.size + 1, 0, none⟩) 2 2, .slice (some ⟨w7.heap.size + 1 + 1 + 1, 0, none⟩) 2 2])) := by
    refine' valAt_lit (by rfl) (strsAt_len (by rfl) ⟨?_, ?_, trivial⟩) (itemsAt_len (by rfl) (rowAt_put ?_ ?_ ?_ ?_ ?_ (valAt_lit (by rfl) (strsAt_nil _) (itemsAt_nil _)) (rowAt_put ?_ ?_ ?_ ?_ ?_ (valAt_lit (by rfl) (strsAt_nil _) (itemsAt_len (by rfl) (rowAt_put ?_ ?_ ?_ ?_ ?_ (valAt_lit (by rfl) (strsAt_nil _) (itemsAt_nil _)) (rowAt_put ?_ ?_ ?_ ?_ ?_ (valAt_lit (by rfl) (strsAt_nil _) (itemsAt_nil _)) (rowAt_nil _ _ _))))) (rowAt_nil _ _ _))))
    iterate 2 (all_goals (try (simp (disch := first | omega | (simp only [size_al] <;> omega) | fail) only [cell_al_eq, cell_al_lt]; rfl)))
  have HBW : Hid (Below w.heap.size w (((((w7.alloc (.cells #[.int .u8 0, .int .i64 0, .string ⟨#[]⟩, .slice none 0 0, .slice none 0 0] 26)).alloc (.cells #[.string ⟨#[97]⟩, .string ⟨#[98]⟩] 9)).alloc (.cells #[.int .u8 2, .int .i64 1, .string ⟨#[]⟩, .slice none 0 0, .slice none 0 0, .int .u8 1, .int .i64 1, .string ⟨#[]⟩, .slice none 0 0, .slice none 0 0] 26)).alloc (.cells #[.int .u8 3, .int .i64 0, .string ⟨#[120]⟩, .slice none 0 0, .slice none 0 0, .int .u8 4, .int .i64 0, .string ⟨#[]⟩, .slice none 0 0, .slice (some ⟨w7.heap.size + 1 + 1, 0, none⟩) 2 2] 26)).alloc (.cells #[.int .u8 5, .int .i64 0, .string ⟨#[]⟩, .slice (some ⟨w7.heap.size + 1, 0, none⟩) 2 2, .slice (some ⟨w7.heap.size + 1 + 1 + 1, 0, none⟩) 2 2] 26))) := below_more (below_more hB1 hB7) hbW
  clear hb7 hB7 hB5 hB1 hK1 hV1 hK7 hV7 HA HB HC HD hb1 hbW hBB
  simp only [zeroV]
  go_wp2_with fail
  refine (Same_any exRead exRead _ _ _ HVW.out HWW.out).mono ?_
  rintro e w8 ⟨rfl, hb8⟩
  rw [sameV_self]
  go_wp2_with fail
  go_ret
  exact ⟨rfl, below_more HBW.out hb8⟩
end Go.Proofs.YtfdecbfcddkoiaaGreatDoor
