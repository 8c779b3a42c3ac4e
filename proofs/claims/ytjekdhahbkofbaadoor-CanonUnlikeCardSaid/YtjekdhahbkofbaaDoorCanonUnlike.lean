/-
  The walk of the law CanonUnlike.
-/
import Derived.Test.YtjekdhahbkofbaaDoorCanonAwake
import Derived.Test.YtjekdhahbkofbaaDoorSame
namespace Go.Proofs.YtjekdhahbkofbaaDoor
open Go.RowKit

set_option maxRecDepth 100000 in
set_option maxHeartbeats 4000000 in
theorem canonUnlike_walk (V W : JV) (v u : Value) (w : World) (h : ValAt w V v) (h2 : ValAt w W u) (henv : TabEnv w) :
    Calls Tryd.prog 5 #[v, u] w fun e w' => e = .returned (.bool true) ∧ Below w.heap.size w w' := by
  obtain ⟨vn, vi, rfl, k0, k1, n0, n1, ht, hns, his⟩ := valAt_iff.1 h
  obtain ⟨ai, icap, rfl, -, -⟩ := his.parts
  obtain ⟨an, ncap, rfl, -, -, -⟩ := hns.parts
  obtain ⟨un, ui, rfl, l0, l1, m0, m1, ht2, hms, hjs⟩ := valAt_iff.1 h2
  obtain ⟨bi, jcap, rfl, -, -⟩ := hjs.parts
  obtain ⟨bn, mcap, rfl, -, -, -⟩ := hms.parts
  obtain ⟨w2, hw2⟩ : ∃ x, x = ((w.alloc (.cells #[.int .u8 V.k, .int .i64 V.n, .string V.t, .slice an V.names.length ncap, .slice ai V.items.length icap] 25)).alloc (.cells #[.int .u8 W.k, .int .i64 W.n, .string W.t, .slice bn W.names.length mcap, .slice bi W.items.length jcap] 25)) := ⟨_, rfl⟩
  have hB2 : Below w.heap.size w w2 := by rw [hw2]; exact bel_alloc (bel_alloc (Below.refl _ _) _) _
  have s2 : w2.heap.size = w.heap.size + 2 := by rw [hw2, size_al, size_al]
  have a0 : w2.cell? ⟨w.heap.size, 0, none⟩ = some (.int .u8 V.k) := by rw [hw2, cell_al_lt _ _ _ _ (by rw [size_al]; omega), cell_al_eq _ _ _ _ _ rfl]; rfl
  have a1 : w2.cell? ⟨w.heap.size, 1, none⟩ = some (.int .i64 V.n) := by rw [hw2, cell_al_lt _ _ _ _ (by rw [size_al]; omega), cell_al_eq _ _ _ _ _ rfl]; rfl
  have a2 : w2.cell? ⟨w.heap.size, 2, none⟩ = some (.string V.t) := by rw [hw2, cell_al_lt _ _ _ _ (by rw [size_al]; omega), cell_al_eq _ _ _ _ _ rfl]; rfl
  have a3 : w2.cell? ⟨w.heap.size, 3, none⟩ = some (.slice an V.names.length ncap) := by rw [hw2, cell_al_lt _ _ _ _ (by rw [size_al]; omega), cell_al_eq _ _ _ _ _ rfl]; rfl
  have a4 : w2.cell? ⟨w.heap.size, 4, none⟩ = some (.slice ai V.items.length icap) := by rw [hw2, cell_al_lt _ _ _ _ (by rw [size_al]; omega), cell_al_eq _ _ _ _ _ rfl]; rfl
  have b0 : w2.cell? ⟨w.heap.size + 1, 0, none⟩ = some (.int .u8 W.k) := by rw [hw2, cell_al_eq _ _ _ _ _ (by rw [size_al])]; rfl
  have b1 : w2.cell? ⟨w.heap.size + 1, 1, none⟩ = some (.int .i64 W.n) := by rw [hw2, cell_al_eq _ _ _ _ _ (by rw [size_al])]; rfl
  have b2 : w2.cell? ⟨w.heap.size + 1, 2, none⟩ = some (.string W.t) := by rw [hw2, cell_al_eq _ _ _ _ _ (by rw [size_al])]; rfl
  have b3 : w2.cell? ⟨w.heap.size + 1, 3, none⟩ = some (.slice bn W.names.length mcap) := by rw [hw2, cell_al_eq _ _ _ _ _ (by rw [size_al])]; rfl
  have b4 : w2.cell? ⟨w.heap.size + 1, 4, none⟩ = some (.slice bi W.items.length jcap) := by rw [hw2, cell_al_eq _ _ _ _ _ (by rw [size_al])]; rfl
  have hV2 := Lib.hid (h.keep hB2)
  have hW2 := Lib.hid (h2.keep hB2)
  have henv2 := Lib.hid (henv.below hB2)
  obtain ⟨w3, hw3⟩ : ∃ x, x = w2.alloc (.cells #[.int .u8 V.k, .int .i64 V.n, .string V.t, .slice an V.names.length ncap, .slice ai V.items.length icap, .int .u8 W.k, .int .i64 W.n, .string W.t, .slice bn W.names.length mcap, .slice bi W.items.length jcap] 25) := ⟨_, rfl⟩
  have hB3 : Below w2.heap.size w2 w3 := by rw [hw3]; exact bel_alloc (Below.refl _ _) _
  have hIt : ItemsAt w3 (.slice (some ⟨w.heap.size + 1 + 1, 0, none⟩) 2 2) [V, W] := by
    have q : ∀ i, w3.cell? ⟨w.heap.size + 1 + 1, i, none⟩ = (#[.int .u8 V.k, .int .i64 V.n, .string V.t, .slice an V.names.length ncap, .slice ai V.items.length icap, .int .u8 W.k, .int .i64 W.n, .string W.t, .slice bn W.names.length mcap, .slice bi W.items.length jcap] : Array Value)[i]? := fun i => by rw [hw3, cell_al_eq _ _ _ _ _ (by omega)]
    exact itemsAt_len (l := [V, W]) rfl (rowAt_put (by rw [q]; rfl) (by rw [q]; rfl) (by rw [q]; rfl) (by rw [q]; rfl) (by rw [q]; rfl) (hV2.out.keep hB3) (rowAt_put (by rw [q]; rfl) (by rw [q]; rfl) (by rw [q]; rfl) (by rw [q]; rfl) (by rw [q]; rfl) (hW2.out.keep hB3) (rowAt_nil _ _ _)))
  have HW3 := Lib.hid hw3
  have HW2 := Lib.hid hw2
  have HS2 := Lib.hid s2
  have HIT := Lib.hid hIt
  have s2le : w.heap.size + 2 ≤ w2.heap.size := by omega
  clear hw3 hw2 s2 hIt h henv h2
  obtain ⟨sV, hsV⟩ : ∃ s, Hid (s = (⟨(formV V).toArray⟩ : ByteArray)) := ⟨_, rfl⟩
  obtain ⟨sW, hsW⟩ : ∃ s, Hid (s = (⟨(formV W).toArray⟩ : ByteArray)) := ⟨_, rfl⟩
  go_enter Tryd.func5, Tryd.ntmps5
  go_wp2_with fail
  rw [← HW2.out, ← HW3.out]
  refine (long_any [V, W] _ _ HIT.out).mono ?_
  rintro e w3' ⟨r, rfl, hr, rfl⟩
  clear hr
  have a0 := cell_keep hB3 a0
  have a1 := cell_keep hB3 a1
  have a2 := cell_keep hB3 a2
  have a3 := cell_keep hB3 a3
  have a4 := cell_keep hB3 a4
  have b0 := cell_keep hB3 b0
  have b1 := cell_keep hB3 b1
  have b2 := cell_keep hB3 b2
  have b3 := cell_keep hB3 b3
  have b4 := cell_keep hB3 b4
  have hB3' := below_more hB2 hB3
  have henv3 := Lib.hid (henv2.out.below hB3)
  have hV3 := Lib.hid (hV2.out.keep hB3)
  have hW3 := Lib.hid (hW2.out.keep hB3)
  cases r with
  | true =>
    go_wp2_with fail
    refine (canonAwake_any _ henv3.out).mono ?_
    rintro e w4 ⟨rfl, hb4⟩
    go_wp2_with fail
    go_ret
    exact ⟨rfl, below_more hB3' hb4⟩
  | false =>
    go_wp2_with fail
    refine (canonAwake_any _ henv3.out).mono ?_
    rintro e w4 ⟨rfl, hb4⟩
    have a0 := cell_keep hb4 a0
    have a1 := cell_keep hb4 a1
    have a2 := cell_keep hb4 a2
    have a3 := cell_keep hb4 a3
    have a4 := cell_keep hb4 a4
    have b0 := cell_keep hb4 b0
    have b1 := cell_keep hb4 b1
    have b2 := cell_keep hb4 b2
    have b3 := cell_keep hb4 b3
    have b4 := cell_keep hb4 b4
    have hB4' := below_more hB3' hb4
    have henv4 := Lib.hid (henv3.out.below hb4)
    have hV4 := Lib.hid (hV3.out.keep hb4)
    have hW4 := Lib.hid (hW3.out.keep hb4)
    obtain ⟨mV, hmV⟩ : ∃ m, Hid (mayB V = m) := ⟨_, rfl⟩
    obtain ⟨mW, hmW⟩ : ∃ m, Hid (mayB W = m) := ⟨_, rfl⟩
    cases mV <;> cases mW
    · go_wp2_with fail
      refine (Encode_no V _ _ hV4.out henv4.out hmV).mono ?_
      rintro e w5 ⟨rfl, hb5⟩
      have a0 := cell_keep hb5 a0
      have a1 := cell_keep hb5 a1
      have a2 := cell_keep hb5 a2
      have a3 := cell_keep hb5 a3
      have a4 := cell_keep hb5 a4
      have b0 := cell_keep hb5 b0
      have b1 := cell_keep hb5 b1
      have b2 := cell_keep hb5 b2
      have b3 := cell_keep hb5 b3
      have b4 := cell_keep hb5 b4
      have hB5' := below_more hB4' hb5
      have henv5 := Lib.hid (henv4.out.below hb5)
      have hV5 := Lib.hid (hV4.out.keep hb5)
      have hW5 := Lib.hid (hW4.out.keep hb5)
      go_wp2_with fail
      refine (Encode_no W _ _ hW5.out henv5.out hmW).mono ?_
      rintro e w6 ⟨rfl, hb6⟩
      have a0 := cell_keep hb6 a0
      have a1 := cell_keep hb6 a1
      have a2 := cell_keep hb6 a2
      have a3 := cell_keep hb6 a3
      have a4 := cell_keep hb6 a4
      have b0 := cell_keep hb6 b0
      have b1 := cell_keep hb6 b1
      have b2 := cell_keep hb6 b2
      have b3 := cell_keep hb6 b3
      have b4 := cell_keep hb6 b4
      have hB6' := below_more hB5' hb6
      have henv6 := Lib.hid (henv5.out.below hb6)
      have hV6 := Lib.hid (hV5.out.keep hb6)
      have hW6 := Lib.hid (hW5.out.keep hb6)
      go_wp2_with fail
      refine (May_is V _ _ hV6.out _ hmV).mono ?_
      rintro e w7 ⟨rfl, hb7⟩
      have a0 := cell_keep hb7 a0
      have a1 := cell_keep hb7 a1
      have a2 := cell_keep hb7 a2
      have a3 := cell_keep hb7 a3
      have a4 := cell_keep hb7 a4
      have b0 := cell_keep hb7 b0
      have b1 := cell_keep hb7 b1
      have b2 := cell_keep hb7 b2
      have b3 := cell_keep hb7 b3
      have b4 := cell_keep hb7 b4
      have hB7' := below_more hB6' hb7
      have henv7 := Lib.hid (henv6.out.below hb7)
      have hV7 := Lib.hid (hV6.out.keep hb7)
      have hW7 := Lib.hid (hW6.out.keep hb7)
      go_wp2_with fail
      refine (May_is W _ _ hW7.out _ hmW).mono ?_
      rintro e w8 ⟨rfl, hb8⟩
      have a0 := cell_keep hb8 a0
      have a1 := cell_keep hb8 a1
      have a2 := cell_keep hb8 a2
      have a3 := cell_keep hb8 a3
      have a4 := cell_keep hb8 a4
      have b0 := cell_keep hb8 b0
      have b1 := cell_keep hb8 b1
      have b2 := cell_keep hb8 b2
      have b3 := cell_keep hb8 b3
      have b4 := cell_keep hb8 b4
      have hB8' := below_more hB7' hb8
      have henv8 := Lib.hid (henv7.out.below hb8)
      have hV8 := Lib.hid (hV7.out.keep hb8)
      have hW8 := Lib.hid (hW7.out.keep hb8)
      go_wp2_with fail
      go_ret
      exact ⟨rfl, hB8'⟩
    · go_wp2_with fail
      refine (Encode_no V _ _ hV4.out henv4.out hmV).mono ?_
      rintro e w5 ⟨rfl, hb5⟩
      have a0 := cell_keep hb5 a0
      have a1 := cell_keep hb5 a1
      have a2 := cell_keep hb5 a2
      have a3 := cell_keep hb5 a3
      have a4 := cell_keep hb5 a4
      have b0 := cell_keep hb5 b0
      have b1 := cell_keep hb5 b1
      have b2 := cell_keep hb5 b2
      have b3 := cell_keep hb5 b3
      have b4 := cell_keep hb5 b4
      have hB5' := below_more hB4' hb5
      have henv5 := Lib.hid (henv4.out.below hb5)
      have hV5 := Lib.hid (hV4.out.keep hb5)
      have hW5 := Lib.hid (hW4.out.keep hb5)
      go_wp2_with fail
      refine (Encode_yes W _ _ hW5.out henv5.out hmW sW hsW).mono ?_
      rintro e w6 ⟨rfl, hb6⟩
      have a0 := cell_keep hb6 a0
      have a1 := cell_keep hb6 a1
      have a2 := cell_keep hb6 a2
      have a3 := cell_keep hb6 a3
      have a4 := cell_keep hb6 a4
      have b0 := cell_keep hb6 b0
      have b1 := cell_keep hb6 b1
      have b2 := cell_keep hb6 b2
      have b3 := cell_keep hb6 b3
      have b4 := cell_keep hb6 b4
      have hB6' := below_more hB5' hb6
      have henv6 := Lib.hid (henv5.out.below hb6)
      have hV6 := Lib.hid (hV5.out.keep hb6)
      have hW6 := Lib.hid (hW5.out.keep hb6)
      go_wp2_with fail
      refine (May_is V _ _ hV6.out _ hmV).mono ?_
      rintro e w7 ⟨rfl, hb7⟩
      have a0 := cell_keep hb7 a0
      have a1 := cell_keep hb7 a1
      have a2 := cell_keep hb7 a2
      have a3 := cell_keep hb7 a3
      have a4 := cell_keep hb7 a4
      have b0 := cell_keep hb7 b0
      have b1 := cell_keep hb7 b1
      have b2 := cell_keep hb7 b2
      have b3 := cell_keep hb7 b3
      have b4 := cell_keep hb7 b4
      have hB7' := below_more hB6' hb7
      have henv7 := Lib.hid (henv6.out.below hb7)
      have hV7 := Lib.hid (hV6.out.keep hb7)
      have hW7 := Lib.hid (hW6.out.keep hb7)
      go_wp2_with fail
      refine (May_is W _ _ hW7.out _ hmW).mono ?_
      rintro e w8 ⟨rfl, hb8⟩
      have a0 := cell_keep hb8 a0
      have a1 := cell_keep hb8 a1
      have a2 := cell_keep hb8 a2
      have a3 := cell_keep hb8 a3
      have a4 := cell_keep hb8 a4
      have b0 := cell_keep hb8 b0
      have b1 := cell_keep hb8 b1
      have b2 := cell_keep hb8 b2
      have b3 := cell_keep hb8 b3
      have b4 := cell_keep hb8 b4
      have hB8' := below_more hB7' hb8
      have henv8 := Lib.hid (henv7.out.below hb8)
      have hV8 := Lib.hid (hV7.out.keep hb8)
      have hW8 := Lib.hid (hW7.out.keep hb8)
      go_wp2_with fail
      go_ret
      exact ⟨rfl, hB8'⟩
    · go_wp2_with fail
      refine (Encode_yes V _ _ hV4.out henv4.out hmV sV hsV).mono ?_
      rintro e w5 ⟨rfl, hb5⟩
      have a0 := cell_keep hb5 a0
      have a1 := cell_keep hb5 a1
      have a2 := cell_keep hb5 a2
      have a3 := cell_keep hb5 a3
      have a4 := cell_keep hb5 a4
      have b0 := cell_keep hb5 b0
      have b1 := cell_keep hb5 b1
      have b2 := cell_keep hb5 b2
      have b3 := cell_keep hb5 b3
      have b4 := cell_keep hb5 b4
      have hB5' := below_more hB4' hb5
      have henv5 := Lib.hid (henv4.out.below hb5)
      have hV5 := Lib.hid (hV4.out.keep hb5)
      have hW5 := Lib.hid (hW4.out.keep hb5)
      go_wp2_with fail
      refine (Encode_no W _ _ hW5.out henv5.out hmW).mono ?_
      rintro e w6 ⟨rfl, hb6⟩
      have a0 := cell_keep hb6 a0
      have a1 := cell_keep hb6 a1
      have a2 := cell_keep hb6 a2
      have a3 := cell_keep hb6 a3
      have a4 := cell_keep hb6 a4
      have b0 := cell_keep hb6 b0
      have b1 := cell_keep hb6 b1
      have b2 := cell_keep hb6 b2
      have b3 := cell_keep hb6 b3
      have b4 := cell_keep hb6 b4
      have hB6' := below_more hB5' hb6
      have henv6 := Lib.hid (henv5.out.below hb6)
      have hV6 := Lib.hid (hV5.out.keep hb6)
      have hW6 := Lib.hid (hW5.out.keep hb6)
      go_wp2_with fail
      refine (May_is V _ _ hV6.out _ hmV).mono ?_
      rintro e w7 ⟨rfl, hb7⟩
      have a0 := cell_keep hb7 a0
      have a1 := cell_keep hb7 a1
      have a2 := cell_keep hb7 a2
      have a3 := cell_keep hb7 a3
      have a4 := cell_keep hb7 a4
      have b0 := cell_keep hb7 b0
      have b1 := cell_keep hb7 b1
      have b2 := cell_keep hb7 b2
      have b3 := cell_keep hb7 b3
      have b4 := cell_keep hb7 b4
      have hB7' := below_more hB6' hb7
      have henv7 := Lib.hid (henv6.out.below hb7)
      have hV7 := Lib.hid (hV6.out.keep hb7)
      have hW7 := Lib.hid (hW6.out.keep hb7)
      go_wp2_with fail
      refine (May_is W _ _ hW7.out _ hmW).mono ?_
      rintro e w8 ⟨rfl, hb8⟩
      have a0 := cell_keep hb8 a0
      have a1 := cell_keep hb8 a1
      have a2 := cell_keep hb8 a2
      have a3 := cell_keep hb8 a3
      have a4 := cell_keep hb8 a4
      have b0 := cell_keep hb8 b0
      have b1 := cell_keep hb8 b1
      have b2 := cell_keep hb8 b2
      have b3 := cell_keep hb8 b3
      have b4 := cell_keep hb8 b4
      have hB8' := below_more hB7' hb8
      have henv8 := Lib.hid (henv7.out.below hb8)
      have hV8 := Lib.hid (hV7.out.keep hb8)
      have hW8 := Lib.hid (hW7.out.keep hb8)
      go_wp2_with fail
      go_ret
      exact ⟨rfl, hB8'⟩
    · go_wp2_with fail
      refine (Encode_yes V _ _ hV4.out henv4.out hmV sV hsV).mono ?_
      rintro e w5 ⟨rfl, hb5⟩
      have a0 := cell_keep hb5 a0
      have a1 := cell_keep hb5 a1
      have a2 := cell_keep hb5 a2
      have a3 := cell_keep hb5 a3
      have a4 := cell_keep hb5 a4
      have b0 := cell_keep hb5 b0
      have b1 := cell_keep hb5 b1
      have b2 := cell_keep hb5 b2
      have b3 := cell_keep hb5 b3
      have b4 := cell_keep hb5 b4
      have hB5' := below_more hB4' hb5
      have henv5 := Lib.hid (henv4.out.below hb5)
      have hV5 := Lib.hid (hV4.out.keep hb5)
      have hW5 := Lib.hid (hW4.out.keep hb5)
      go_wp2_with fail
      refine (Encode_yes W _ _ hW5.out henv5.out hmW sW hsW).mono ?_
      rintro e w6 ⟨rfl, hb6⟩
      have a0 := cell_keep hb6 a0
      have a1 := cell_keep hb6 a1
      have a2 := cell_keep hb6 a2
      have a3 := cell_keep hb6 a3
      have a4 := cell_keep hb6 a4
      have b0 := cell_keep hb6 b0
      have b1 := cell_keep hb6 b1
      have b2 := cell_keep hb6 b2
      have b3 := cell_keep hb6 b3
      have b4 := cell_keep hb6 b4
      have hB6' := below_more hB5' hb6
      have henv6 := Lib.hid (henv5.out.below hb6)
      have hV6 := Lib.hid (hV5.out.keep hb6)
      have hW6 := Lib.hid (hW5.out.keep hb6)
      go_wp2_with fail
      refine (May_is V _ _ hV6.out _ hmV).mono ?_
      rintro e w7 ⟨rfl, hb7⟩
      have a0 := cell_keep hb7 a0
      have a1 := cell_keep hb7 a1
      have a2 := cell_keep hb7 a2
      have a3 := cell_keep hb7 a3
      have a4 := cell_keep hb7 a4
      have b0 := cell_keep hb7 b0
      have b1 := cell_keep hb7 b1
      have b2 := cell_keep hb7 b2
      have b3 := cell_keep hb7 b3
      have b4 := cell_keep hb7 b4
      have hB7' := below_more hB6' hb7
      have henv7 := Lib.hid (henv6.out.below hb7)
      have hV7 := Lib.hid (hV6.out.keep hb7)
      have hW7 := Lib.hid (hW6.out.keep hb7)
      go_wp2_with fail
      refine (May_is W _ _ hW7.out _ hmW).mono ?_
      rintro e w8 ⟨rfl, hb8⟩
      have a0 := cell_keep hb8 a0
      have a1 := cell_keep hb8 a1
      have a2 := cell_keep hb8 a2
      have a3 := cell_keep hb8 a3
      have a4 := cell_keep hb8 a4
      have b0 := cell_keep hb8 b0
      have b1 := cell_keep hb8 b1
      have b2 := cell_keep hb8 b2
      have b3 := cell_keep hb8 b3
      have b4 := cell_keep hb8 b4
      have hB8' := below_more hB7' hb8
      have henv8 := Lib.hid (henv7.out.below hb8)
      have hV8 := Lib.hid (hV7.out.keep hb8)
      have hW8 := Lib.hid (hW7.out.keep hb8)
      obtain ⟨z, hz⟩ : ∃ z, sameV V W = z := ⟨_, rfl⟩
      have hS := Same_any V W _ _ _ hV8.out hW8.out
      rw [hz] at hS
      have hc : (sV.toList == sW.toList) = z := by
        rw [← hz, hsV.out, hsW.out, toList_data, toList_data]
        show (formV V == formV W) = _
        rw [Bool.eq_iff_iff, sameV_iff, beq_iff_eq]
        exact ⟨fun e => may_uniq hmV.out hmW.out e, fun e => by rw [e]⟩
      have HZ := Lib.hid hz
      clear hz
      go_wp2_with fail
      refine hS.mono ?_
      rintro e w9 ⟨rfl, hb9⟩
      cases z with
      | true =>
        go_wp2_with fail
        go_ret
        exact ⟨rfl, below_more hB8' hb9⟩
      | false =>
        go_wp2_with fail
        go_ret
        exact ⟨rfl, below_more hB8' hb9⟩
end Go.Proofs.YtjekdhahbkofbaaDoor
