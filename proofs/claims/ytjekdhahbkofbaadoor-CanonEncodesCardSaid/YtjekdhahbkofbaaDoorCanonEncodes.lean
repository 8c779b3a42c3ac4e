/-
  The walk of the law CanonEncodes.
-/
import Derived.Test.YtjekdhahbkofbaaDoorCanonAwake
import Derived.Test.YtjekdhahbkofbaaDoorSame
import Derived.Test.YtjekdhahbkofbaaDoorCanonRef2
namespace Go.Proofs.YtjekdhahbkofbaaDoor
open Go.RowKit

set_option maxRecDepth 100000 in
set_option maxHeartbeats 4000000 in
theorem canonEncodes_walk (V : JV) (v : Value) (w : World) (h : ValAt w V v) (henv : TabEnv w) :
    Calls Tryd.prog 3 #[v] w fun e w' => e = .returned (.bool true) ∧ Below w.heap.size w w' := by
  obtain ⟨vn, vi, rfl, k0, k1, n0, n1, ht, hns, his⟩ := valAt_iff.1 h
  obtain ⟨ai, icap, rfl, -, -⟩ := his.parts
  obtain ⟨an, ncap, rfl, -, -, -⟩ := hns.parts
  obtain ⟨w2, hw2⟩ : ∃ x, x = w.alloc (.cells #[.int .u8 V.k, .int .i64 V.n, .string V.t, .slice an V.names.length ncap, .slice ai V.items.length icap] 25) := ⟨_, rfl⟩
  have hB2 : Below w.heap.size w w2 := by rw [hw2]; exact bel_alloc (Below.refl _ _) _
  have s2 : w2.heap.size = w.heap.size + 1 := by rw [hw2, size_al]
  have a0 : w2.cell? ⟨w.heap.size, 0, none⟩ = some (.int .u8 V.k) := by rw [hw2, cell_al_eq _ _ _ _ _ rfl]; rfl
  have a1 : w2.cell? ⟨w.heap.size, 1, none⟩ = some (.int .i64 V.n) := by rw [hw2, cell_al_eq _ _ _ _ _ rfl]; rfl
  have a2 : w2.cell? ⟨w.heap.size, 2, none⟩ = some (.string V.t) := by rw [hw2, cell_al_eq _ _ _ _ _ rfl]; rfl
  have a3 : w2.cell? ⟨w.heap.size, 3, none⟩ = some (.slice an V.names.length ncap) := by rw [hw2, cell_al_eq _ _ _ _ _ rfl]; rfl
  have a4 : w2.cell? ⟨w.heap.size, 4, none⟩ = some (.slice ai V.items.length icap) := by rw [hw2, cell_al_eq _ _ _ _ _ rfl]; rfl
  have hV2 := Lib.hid (h.keep hB2)
  have henv2 := Lib.hid (henv.below hB2)
  obtain ⟨w3, hw3⟩ : ∃ x, x = w2.alloc (.cells #[.int .u8 V.k, .int .i64 V.n, .string V.t, .slice an V.names.length ncap, .slice ai V.items.length icap] 25) := ⟨_, rfl⟩
  have hB3 : Below w2.heap.size w2 w3 := by rw [hw3]; exact bel_alloc (Below.refl _ _) _
  have hIt : ItemsAt w3 (.slice (some ⟨w.heap.size + 1, 0, none⟩) 1 1) [V] := by
    have q : ∀ i, w3.cell? ⟨w.heap.size + 1, i, none⟩ = (#[.int .u8 V.k, .int .i64 V.n, .string V.t, .slice an V.names.length ncap, .slice ai V.items.length icap] : Array Value)[i]? := fun i => by rw [hw3, cell_al_eq _ _ _ _ _ (by omega)]
    exact itemsAt_len (l := [V]) rfl (rowAt_put (by rw [q]; rfl) (by rw [q]; rfl) (by rw [q]; rfl) (by rw [q]; rfl) (by rw [q]; rfl) (hV2.out.keep hB3) (rowAt_nil _ _ _))
  have HW3 := Lib.hid hw3
  have HW2 := Lib.hid hw2
  have HS2 := Lib.hid s2
  have HIT := Lib.hid hIt
  have s2le : w.heap.size + 1 ≤ w2.heap.size := by omega
  clear hw3 hw2 s2 hIt h henv
  obtain ⟨sV, hsV⟩ : ∃ s, Hid (s = (⟨(formV V).toArray⟩ : ByteArray)) := ⟨_, rfl⟩
  go_enter Tryd.func3, Tryd.ntmps3
  go_wp2_with fail
  rw [← HW2.out, ← HW3.out]
  refine (long_any [V] _ _ HIT.out).mono ?_
  rintro e w3' ⟨r, rfl, hr, rfl⟩
  have hwt := Lib.hid hr
  clear hr
  have a0 := cell_keep hB3 a0
  have a1 := cell_keep hB3 a1
  have a2 := cell_keep hB3 a2
  have a3 := cell_keep hB3 a3
  have a4 := cell_keep hB3 a4
  have hB3' := below_more hB2 hB3
  have henv3 := Lib.hid (henv2.out.below hB3)
  have hV3 := Lib.hid (hV2.out.keep hB3)
  cases r with
  | true =>
    go_wp2_with fail
    refine (canonAwake_any _ henv3.out).mono ?_
    rintro e w4 ⟨rfl, hb4⟩
    go_wp2_with fail
    go_ret
    exact ⟨rfl, below_more hB3' hb4⟩
  | false =>
    have hwV : wt V ≤ 1000000000 := by have := hwt.out rfl; simp [wtL] at this; omega
    obtain ⟨mV, hmV⟩ : ∃ m, Hid (mayB V = m) := ⟨_, rfl⟩
    cases mV
    · go_wp2_with fail
      refine (Encode_no V _ _ hV3.out henv3.out hmV).mono ?_
      rintro e w4 ⟨rfl, hb4⟩
      have a0 := cell_keep hb4 a0
      have a1 := cell_keep hb4 a1
      have a2 := cell_keep hb4 a2
      have a3 := cell_keep hb4 a3
      have a4 := cell_keep hb4 a4
      have hB4' := below_more hB3' hb4
      have henv4 := Lib.hid (henv3.out.below hb4)
      have hV4 := Lib.hid (hV3.out.keep hb4)
      go_wp2_with fail
      refine (refEncode_no V _ _ hV4.out hwV hmV).mono ?_
      rintro e w5 ⟨rfl, hb5⟩
      have a0 := cell_keep hb5 a0
      have a1 := cell_keep hb5 a1
      have a2 := cell_keep hb5 a2
      have a3 := cell_keep hb5 a3
      have a4 := cell_keep hb5 a4
      have hB5' := below_more hB4' hb5
      have henv5 := Lib.hid (henv4.out.below hb5)
      have hV5 := Lib.hid (hV4.out.keep hb5)
      go_wp2_with fail
      refine (Encode_no V _ _ hV5.out henv5.out hmV).mono ?_
      rintro e w6 ⟨rfl, hb6⟩
      have a0 := cell_keep hb6 a0
      have a1 := cell_keep hb6 a1
      have a2 := cell_keep hb6 a2
      have a3 := cell_keep hb6 a3
      have a4 := cell_keep hb6 a4
      have hB6' := below_more hB5' hb6
      have henv6 := Lib.hid (henv5.out.below hb6)
      have hV6 := Lib.hid (hV5.out.keep hb6)
      have hS := Same_any V V _ _ _ hV6.out hV6.out
      rw [sameV_self] at hS
      have HS := Lib.hid hS
      clear hS
      go_wp2_with fail
      refine HS.out.mono ?_
      rintro e w7 ⟨rfl, hb7⟩
      go_wp2_with fail
      refine (canonAwake_any _ (henv6.out.below hb7)).mono ?_
      rintro e w8 ⟨rfl, hb8⟩
      go_wp2_with fail
      go_ret
      exact ⟨rfl, below_more (below_more hB6' hb7) hb8⟩
    · go_wp2_with fail
      refine (Encode_yes V _ _ hV3.out henv3.out hmV sV hsV).mono ?_
      rintro e w4 ⟨rfl, hb4⟩
      have a0 := cell_keep hb4 a0
      have a1 := cell_keep hb4 a1
      have a2 := cell_keep hb4 a2
      have a3 := cell_keep hb4 a3
      have a4 := cell_keep hb4 a4
      have hB4' := below_more hB3' hb4
      have henv4 := Lib.hid (henv3.out.below hb4)
      have hV4 := Lib.hid (hV3.out.keep hb4)
      go_wp2_with fail
      refine (refEncode_yes V _ _ hV4.out hwV hmV sV hsV).mono ?_
      rintro e w5 ⟨rfl, hb5⟩
      have a0 := cell_keep hb5 a0
      have a1 := cell_keep hb5 a1
      have a2 := cell_keep hb5 a2
      have a3 := cell_keep hb5 a3
      have a4 := cell_keep hb5 a4
      have hB5' := below_more hB4' hb5
      have henv5 := Lib.hid (henv4.out.below hb5)
      have hV5 := Lib.hid (hV4.out.keep hb5)
      go_wp2_with fail
      refine (Encode_yes V _ _ hV5.out henv5.out hmV sV hsV).mono ?_
      rintro e w6 ⟨rfl, hb6⟩
      have a0 := cell_keep hb6 a0
      have a1 := cell_keep hb6 a1
      have a2 := cell_keep hb6 a2
      have a3 := cell_keep hb6 a3
      have a4 := cell_keep hb6 a4
      have hB6' := below_more hB5' hb6
      have henv6 := Lib.hid (henv5.out.below hb6)
      have hV6 := Lib.hid (hV5.out.keep hb6)
      have hS := Same_any V V _ _ _ hV6.out hV6.out
      rw [sameV_self] at hS
      have HS := Lib.hid hS
      clear hS
      go_wp2_with fail
      refine HS.out.mono ?_
      rintro e w7 ⟨rfl, hb7⟩
      go_wp2_with fail
      refine (canonAwake_any _ (henv6.out.below hb7)).mono ?_
      rintro e w8 ⟨rfl, hb8⟩
      go_wp2_with fail
      go_ret
      exact ⟨rfl, below_more (below_more hB6' hb7) hb8⟩
end Go.Proofs.YtjekdhahbkofbaaDoor
