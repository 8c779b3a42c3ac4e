/-
  The walk of the law CanonParts.
-/
import Derived.Test.YtjekdhahbkofbaaDoorCanonAwake
import Derived.Test.YtjekdhahbkofbaaDoorSame
import Derived.Lib.SmallJoins
namespace Go.Proofs.YtjekdhahbkofbaaDoor
open Go.RowKit

theorem text_form (s : ByteArray) : formV (JV.text s) = quoteL s.data.toList := by rw [formV_eq]; rfl
theorem text_may {s : ByteArray} (h : writ s = true) : mayB (JV.text s) = true := by
  rw [mayB_iff, goodV_eq, depthV_eq, countV_eq]
  refine ⟨?_, ?_, ?_⟩
  · show (properB (.mk 3 0 s [] []) && _) = true
    rw [properB]
    simp [h, JV.k, JV.text]
  · simp [JV.text, JV.k]
  · simp [JV.text, JV.items, countL]
theorem data_len (s : ByteArray) : s.data.toList.length = s.size := size_len s
theorem str_eq {a b : ByteArray} (h : a.data.toList = b.data.toList) : (a.toList == b.toList) = true := by rw [beq_iff_eq, toList_data, toList_data]; exact h
set_option maxRecDepth 100000 in
set_option maxHeartbeats 4000000 in
theorem canonParts_no (V : JV) (v : Value) (w : World) (h : ValAt w V v) (henv : TabEnv w) (hmV : Hid (mayB V = false)) :
    Calls Tryd.prog 6 #[v] w fun e w' => e = .returned (.bool true) ∧ Below w.heap.size w w' := by
  obtain ⟨vn, vi, rfl, k0, k1, n0, n1, ht, hns, his⟩ := valAt_iff.1 h
  obtain ⟨ai, icap, rfl, -, -⟩ := his.parts
  obtain ⟨an, ncap, rfl, -, -, -⟩ := hns.parts
  obtain ⟨w2, hw2⟩ : ∃ x, x = w.alloc (.cells #[.int .u8 V.k, .int .i64 V.n, .string V.t, .slice an V.names.length ncap, .slice ai V.items.length icap] 25) := ⟨_, rfl⟩
  have hB2 : Below w.heap.size w w2 := by rw [hw2]; exact bel_alloc (Below.refl _ _) _
  have s2 : w2.heap.size = w.heap.size + 1 := by rw [hw2, size_al]
  have a0 : w2.cell? ⟨w.heap.size, 0, none⟩ = some (.int .u8 V.k) := by rw [hw2, cell_al_eq _ _ _ _ _ rfl]; rfl
  have a1 : w2.cell? ⟨w.heap.size, 1, none⟩ = some (.int .i64 V.n) := by rw [hw2, cell_al_eq _ _ _ _ _ rfl]; rfl
  have a2 : w2.cell? ⟨w.heap.size, 2, none⟩ = some (.string V.t) := by rw [hw2, cell_al_eq _ _ _ _ _ rfl]; rfl
  have a3 : w2.cell? ⟨w.heap.size, 3, none⟩ = some (.slice an V.names.length ncap) := by rw [hw2, cell_al_eq _ _ _ _ _ rfl]; rfl
  have a4 : w2.cell? ⟨w.heap.size, 4, none⟩ = some (.slice ai V.items.length icap) := by rw [hw2, cell_al_eq _ _ _ _ _ rfl]; rfl
  have hV2 := Lib.hid (h.keep hB2)
  have henv2 := Lib.hid (henv.below hB2)
  obtain ⟨w3, hw3⟩ : ∃ x, x = w2.alloc (.cells #[.int .u8 V.k, .int .i64 V.n, .string V.t, .slice an V.names.length ncap, .slice ai V.items.length icap] 25) := ⟨_, rfl⟩
  have hB3 : Below w2.heap.size w2 w3 := by rw [hw3]; exact bel_alloc (Below.refl _ _) _
  have hIt : ItemsAt w3 (.slice (some ⟨w.heap.size + 1, 0, none⟩) 1 1) [V] := by
    have q : ∀ i, w3.cell? ⟨w.heap.size + 1, i, none⟩ = (#[.int .u8 V.k, .int .i64 V.n, .string V.t, .slice an V.names.length ncap, .slice ai V.items.length icap] : Array Value)[i]? := fun i => by rw [hw3, cell_al_eq _ _ _ _ _ (by omega)]
    exact itemsAt_len (l := [V]) rfl (rowAt_put (by rw [q]; rfl) (by rw [q]; rfl) (by rw [q]; rfl) (by rw [q]; rfl) (by rw [q]; rfl) (hV2.out.keep hB3) (rowAt_nil _ _ _))
  have HW3 := Lib.hid hw3
  have HW2 := Lib.hid hw2
  have HS2 := Lib.hid s2
  have HIT := Lib.hid hIt
  have s2le : w.heap.size + 1 ≤ w2.heap.size := by omega
  clear hw3 hw2 s2 hIt h henv
  go_enter Tryd.func6, Tryd.ntmps6
  go_wp2_with fail
  rw [← HW2.out, ← HW3.out]
  refine (long_any [V] _ _ HIT.out).mono ?_
  rintro e w3' ⟨r, rfl, hr, rfl⟩
  clear hr
  have a0 := cell_keep hB3 a0
  have a1 := cell_keep hB3 a1
  have a2 := cell_keep hB3 a2
  have a3 := cell_keep hB3 a3
  have a4 := cell_keep hB3 a4
  have hB3' := below_more hB2 hB3
  have henv3 := Lib.hid (henv2.out.below hB3)
  have hV3 := Lib.hid (hV2.out.keep hB3)
  cases r with
  | true =>
    go_wp2_with fail
    refine (canonAwake_any _ henv3.out).mono ?_
    rintro e w4 ⟨rfl, hb4⟩
    go_wp2_with fail
    go_ret
    exact ⟨rfl, below_more hB3' hb4⟩
  | false =>
    go_wp2_with fail
    refine (canonAwake_any _ henv3.out).mono ?_
    rintro e w4 ⟨rfl, hb4⟩
    have a0 := cell_keep hb4 a0
    have a1 := cell_keep hb4 a1
    have a2 := cell_keep hb4 a2
    have a3 := cell_keep hb4 a3
    have a4 := cell_keep hb4 a4
    have hB4' := below_more hB3' hb4
    have henv4 := Lib.hid (henv3.out.below hb4)
    have hV4 := Lib.hid (hV3.out.keep hb4)
    go_wp2_with fail
    refine (Encode_no V _ _ hV4.out henv4.out hmV).mono ?_
    rintro e w5 ⟨rfl, hb5⟩
    have a0 := cell_keep hb5 a0
    have a1 := cell_keep hb5 a1
    have a2 := cell_keep hb5 a2
    have a3 := cell_keep hb5 a3
    have a4 := cell_keep hb5 a4
    have hB5' := below_more hB4' hb5
    have henv5 := Lib.hid (henv4.out.below hb5)
    have hV5 := Lib.hid (hV4.out.keep hb5)
    go_wp2_with fail
    go_ret
    exact ⟨rfl, hB5'⟩
set_option maxRecDepth 100000 in
set_option maxHeartbeats 4000000 in
theorem canonParts_leaf (V : JV) (v : Value) (w : World) (h : ValAt w V v) (henv : TabEnv w) (hmV : Hid (mayB V = true)) (hk4 : (V.k != 4) = true) (hk5 : (V.k != 5) = true) :
    Calls Tryd.prog 6 #[v] w fun e w' => e = .returned (.bool true) ∧ Below w.heap.size w w' := by
  obtain ⟨vn, vi, rfl, k0, k1, n0, n1, ht, hns, his⟩ := valAt_iff.1 h
  obtain ⟨ai, icap, rfl, -, -⟩ := his.parts
  obtain ⟨an, ncap, rfl, -, -, -⟩ := hns.parts
  obtain ⟨w2, hw2⟩ : ∃ x, x = w.alloc (.cells #[.int .u8 V.k, .int .i64 V.n, .string V.t, .slice an V.names.length ncap, .slice ai V.items.length icap] 25) := ⟨_, rfl⟩
  have hB2 : Below w.heap.size w w2 := by rw [hw2]; exact bel_alloc (Below.refl _ _) _
  have s2 : w2.heap.size = w.heap.size + 1 := by rw [hw2, size_al]
  have a0 : w2.cell? ⟨w.heap.size, 0, none⟩ = some (.int .u8 V.k) := by rw [hw2, cell_al_eq _ _ _ _ _ rfl]; rfl
  have a1 : w2.cell? ⟨w.heap.size, 1, none⟩ = some (.int .i64 V.n) := by rw [hw2, cell_al_eq _ _ _ _ _ rfl]; rfl
  have a2 : w2.cell? ⟨w.heap.size, 2, none⟩ = some (.string V.t) := by rw [hw2, cell_al_eq _ _ _ _ _ rfl]; rfl
  have a3 : w2.cell? ⟨w.heap.size, 3, none⟩ = some (.slice an V.names.length ncap) := by rw [hw2, cell_al_eq _ _ _ _ _ rfl]; rfl
  have a4 : w2.cell? ⟨w.heap.size, 4, none⟩ = some (.slice ai V.items.length icap) := by rw [hw2, cell_al_eq _ _ _ _ _ rfl]; rfl
  have hV2 := Lib.hid (h.keep hB2)
  have henv2 := Lib.hid (henv.below hB2)
  obtain ⟨w3, hw3⟩ : ∃ x, x = w2.alloc (.cells #[.int .u8 V.k, .int .i64 V.n, .string V.t, .slice an V.names.length ncap, .slice ai V.items.length icap] 25) := ⟨_, rfl⟩
  have hB3 : Below w2.heap.size w2 w3 := by rw [hw3]; exact bel_alloc (Below.refl _ _) _
  have hIt : ItemsAt w3 (.slice (some ⟨w.heap.size + 1, 0, none⟩) 1 1) [V] := by
    have q : ∀ i, w3.cell? ⟨w.heap.size + 1, i, none⟩ = (#[.int .u8 V.k, .int .i64 V.n, .string V.t, .slice an V.names.length ncap, .slice ai V.items.length icap] : Array Value)[i]? := fun i => by rw [hw3, cell_al_eq _ _ _ _ _ (by omega)]
    exact itemsAt_len (l := [V]) rfl (rowAt_put (by rw [q]; rfl) (by rw [q]; rfl) (by rw [q]; rfl) (by rw [q]; rfl) (by rw [q]; rfl) (hV2.out.keep hB3) (rowAt_nil _ _ _))
  have HW3 := Lib.hid hw3
  have HW2 := Lib.hid hw2
  have HS2 := Lib.hid s2
  have HIT := Lib.hid hIt
  have s2le : w.heap.size + 1 ≤ w2.heap.size := by omega
  clear hw3 hw2 s2 hIt h henv
  obtain ⟨sV, hsV⟩ : ∃ s, Hid (s = (⟨(formV V).toArray⟩ : ByteArray)) := ⟨_, rfl⟩
  go_enter Tryd.func6, Tryd.ntmps6
  go_wp2_with fail
  rw [← HW2.out, ← HW3.out]
  refine (long_any [V] _ _ HIT.out).mono ?_
  rintro e w3' ⟨r, rfl, hr, rfl⟩
  clear hr
  have a0 := cell_keep hB3 a0
  have a1 := cell_keep hB3 a1
  have a2 := cell_keep hB3 a2
  have a3 := cell_keep hB3 a3
  have a4 := cell_keep hB3 a4
  have hB3' := below_more hB2 hB3
  have henv3 := Lib.hid (henv2.out.below hB3)
  have hV3 := Lib.hid (hV2.out.keep hB3)
  cases r with
  | true =>
    go_wp2_with fail
    refine (canonAwake_any _ henv3.out).mono ?_
    rintro e w4 ⟨rfl, hb4⟩
    go_wp2_with fail
    go_ret
    exact ⟨rfl, below_more hB3' hb4⟩
  | false =>
    go_wp2_with fail
    refine (canonAwake_any _ henv3.out).mono ?_
    rintro e w4 ⟨rfl, hb4⟩
    have a0 := cell_keep hb4 a0
    have a1 := cell_keep hb4 a1
    have a2 := cell_keep hb4 a2
    have a3 := cell_keep hb4 a3
    have a4 := cell_keep hb4 a4
    have hB4' := below_more hB3' hb4
    have henv4 := Lib.hid (henv3.out.below hb4)
    have hV4 := Lib.hid (hV3.out.keep hb4)
    go_wp2_with fail
    refine (Encode_yes V _ _ hV4.out henv4.out hmV sV hsV).mono ?_
    rintro e w5 ⟨rfl, hb5⟩
    have a0 := cell_keep hb5 a0
    have a1 := cell_keep hb5 a1
    have a2 := cell_keep hb5 a2
    have a3 := cell_keep hb5 a3
    have a4 := cell_keep hb5 a4
    have hB5' := below_more hB4' hb5
    have henv5 := Lib.hid (henv4.out.below hb5)
    have hV5 := Lib.hid (hV4.out.keep hb5)
    go_wp2_with fail
    go_ret
    exact ⟨rfl, hB5'⟩
set_option maxRecDepth 100000 in
set_option maxHeartbeats 4000000 in
theorem canonParts_list (V : JV) (v : Value) (w : World) (h : ValAt w V v) (henv : TabEnv w) (hmV : Hid (mayB V = true)) (hk : Hid (V.k = 4)) (hk4 : (V.k != 4) = false) (hk5' : (V.k == 5) = false) :
    Calls Tryd.prog 6 #[v] w fun e w' => e = .returned (.bool true) ∧ Below w.heap.size w w' := by
  obtain ⟨vn, vi, rfl, k0, k1, n0, n1, ht, hns, his⟩ := valAt_iff.1 h
  obtain ⟨ai, icap, rfl, -, -⟩ := his.parts
  obtain ⟨an, ncap, rfl, -, -, -⟩ := hns.parts
  obtain ⟨w2, hw2⟩ : ∃ x, x = w.alloc (.cells #[.int .u8 V.k, .int .i64 V.n, .string V.t, .slice an V.names.length ncap, .slice ai V.items.length icap] 25) := ⟨_, rfl⟩
  have hB2 : Below w.heap.size w w2 := by rw [hw2]; exact bel_alloc (Below.refl _ _) _
  have s2 : w2.heap.size = w.heap.size + 1 := by rw [hw2, size_al]
  have a0 : w2.cell? ⟨w.heap.size, 0, none⟩ = some (.int .u8 V.k) := by rw [hw2, cell_al_eq _ _ _ _ _ rfl]; rfl
  have a1 : w2.cell? ⟨w.heap.size, 1, none⟩ = some (.int .i64 V.n) := by rw [hw2, cell_al_eq _ _ _ _ _ rfl]; rfl
  have a2 : w2.cell? ⟨w.heap.size, 2, none⟩ = some (.string V.t) := by rw [hw2, cell_al_eq _ _ _ _ _ rfl]; rfl
  have a3 : w2.cell? ⟨w.heap.size, 3, none⟩ = some (.slice an V.names.length ncap) := by rw [hw2, cell_al_eq _ _ _ _ _ rfl]; rfl
  have a4 : w2.cell? ⟨w.heap.size, 4, none⟩ = some (.slice ai V.items.length icap) := by rw [hw2, cell_al_eq _ _ _ _ _ rfl]; rfl
  have hV2 := Lib.hid (h.keep hB2)
  have henv2 := Lib.hid (henv.below hB2)
  obtain ⟨w3, hw3⟩ : ∃ x, x = w2.alloc (.cells #[.int .u8 V.k, .int .i64 V.n, .string V.t, .slice an V.names.length ncap, .slice ai V.items.length icap] 25) := ⟨_, rfl⟩
  have hB3 : Below w2.heap.size w2 w3 := by rw [hw3]; exact bel_alloc (Below.refl _ _) _
  have hIt : ItemsAt w3 (.slice (some ⟨w.heap.size + 1, 0, none⟩) 1 1) [V] := by
    have q : ∀ i, w3.cell? ⟨w.heap.size + 1, i, none⟩ = (#[.int .u8 V.k, .int .i64 V.n, .string V.t, .slice an V.names.length ncap, .slice ai V.items.length icap] : Array Value)[i]? := fun i => by rw [hw3, cell_al_eq _ _ _ _ _ (by omega)]
    exact itemsAt_len (l := [V]) rfl (rowAt_put (by rw [q]; rfl) (by rw [q]; rfl) (by rw [q]; rfl) (by rw [q]; rfl) (by rw [q]; rfl) (hV2.out.keep hB3) (rowAt_nil _ _ _))
  have HW3 := Lib.hid hw3
  have HW2 := Lib.hid hw2
  have HS2 := Lib.hid s2
  have HIT := Lib.hid hIt
  have s2le : w.heap.size + 1 ≤ w2.heap.size := by omega
  clear hw3 hw2 s2 hIt h henv
  obtain ⟨sV, hsV⟩ : ∃ s, Hid (s = (⟨(formV V).toArray⟩ : ByteArray)) := ⟨_, rfl⟩
  have HIV := Lib.hid (inV_of hV2.out)
  obtain ⟨il, HIL⟩ : ∃ n, Hid (V.items.length = n) := ⟨_, rfl⟩
  have hilm : il ≤ 9223372036854775807 := by
    obtain ⟨_, _, -, q, -⟩ := (valAt_iff.1 hV2.out).choose_spec.choose_spec.2.2.2.2.2.2.2.parts
    rw [← HIL.out]; exact q
  obtain ⟨parts, hparts⟩ : ∃ p, p = (formVs V.items) := ⟨_, rfl⟩
  have hpl : parts.length = il := by
    rw [hparts]
    rw [formVs_map, List.length_map, HIL.out]
  have hform : formV V = 91 :: (joinC parts ++ [93]) := by rw [formV_eq, hparts, hk.out]; rfl
  have hsmall : (joinC parts).length ≤ 200000000 := by
    have := form_small HIV.out hmV.out
    rw [hform] at this
    simp at this
    omega
  have HPS := Lib.hid hparts
  have HPL := Lib.hid hpl
  have HFM := Lib.hid hform
  clear hparts hpl hform
  go_enter Tryd.func6, Tryd.ntmps6
  go_wp2_with fail
  rw [← HW2.out, ← HW3.out]
  refine (long_any [V] _ _ HIT.out).mono ?_
  rintro e w3' ⟨r, rfl, hr, rfl⟩
  clear hr
  have a0 := cell_keep hB3 a0
  have a1 := cell_keep hB3 a1
  have a2 := cell_keep hB3 a2
  have a3 := cell_keep hB3 a3
  have a4 := cell_keep hB3 a4
  have hB3' := below_more hB2 hB3
  have henv3 := Lib.hid (henv2.out.below hB3)
  have hV3 := Lib.hid (hV2.out.keep hB3)
  cases r with
  | true =>
    go_wp2_with fail
    refine (canonAwake_any _ henv3.out).mono ?_
    rintro e w4 ⟨rfl, hb4⟩
    go_wp2_with fail
    go_ret
    exact ⟨rfl, below_more hB3' hb4⟩
  | false =>
    go_wp2_with fail
    refine (canonAwake_any _ henv3.out).mono ?_
    rintro e w4 ⟨rfl, hb4⟩
    have a0 := cell_keep hb4 a0
    have a1 := cell_keep hb4 a1
    have a2 := cell_keep hb4 a2
    have a3 := cell_keep hb4 a3
    have a4 := cell_keep hb4 a4
    have hB4' := below_more hB3' hb4
    have henv4 := Lib.hid (henv3.out.below hb4)
    have hV4 := Lib.hid (hV3.out.keep hb4)
    go_wp2_with fail
    refine (Encode_yes V _ _ hV4.out henv4.out hmV sV hsV).mono ?_
    rintro e w5 ⟨rfl, hb5⟩
    have a0 := cell_keep hb5 a0
    have a1 := cell_keep hb5 a1
    have a2 := cell_keep hb5 a2
    have a3 := cell_keep hb5 a3
    have a4 := cell_keep hb5 a4
    have hB5' := below_more hB4' hb5
    have henv5 := Lib.hid (henv4.out.below hb5)
    have hV5 := Lib.hid (hV4.out.keep hb5)
    rw [HIL.out] at a4
    go_wp2_with fail
    go_loopw [5, 6] (fun s i wr => ∃ (j : Nat) (u : ByteArray), j ≤ il ∧ i = .int .i64 j ∧ s = .string u ∧ u.size ≤ 200000000 ∧ Hid (u.data.toList = joinC (parts.take j)) ∧ Below w5.heap.size w5 wr) (fun _ i _ => il - (intOf i).toNat)
    case atStart => exact ⟨0, ⟨#[]⟩, by omega, rfl, rfl, by decide, by simp [Hid, joinC], Below.refl _ _⟩
    case round =>
      obtain ⟨j, u, hj, rfl, rfl, hu, HU, hbr⟩ := hrel
      have c0 := cell_keep hbr a0
      have c3 := cell_keep hbr a3
      have c4 := cell_keep hbr a4
      have hV6 := Lib.hid (hV5.out.keep hbr)
      have henv6 := Lib.hid (henv5.out.below hbr)
      by_cases hjl : j < il
      · obtain ⟨x, hx⟩ : ∃ x, V.items[j]? = some x := ⟨_, List.getElem?_eq_getElem (by rw [HIL.out]; exact hjl)⟩
        have hmx : Hid (mayB x = true) := may_item hmV.out (by rw [hk.out]; simp) (List.mem_of_getElem? hx)
        obtain ⟨_, _, e1, -, -, -, -, -, hnn, hii⟩ := valAt_iff.1 hV6.out
        simp only [Value.agg.injEq, Array.mk.injEq, List.cons.injEq, true_and, and_true] at e1
        obtain ⟨rfl, rfl⟩ := e1
        obtain ⟨_, _, e', -, hpart⟩ := hii.parts
        simp only [Value.slice.injEq] at e'
        obtain ⟨rfl, -, rfl⟩ := e'
        obtain ⟨xb, xo, xn, xi, rfl, x0, x1, x2, x3, x4, q⟩ := hpart j x hx
        have hvx := valAt_iff.2 ⟨xn, xi, rfl, q⟩
        obtain ⟨-, -, -, -, -, q1, q2⟩ := q
        obtain ⟨xi1, xi2, rfl, -, -⟩ := q2.parts
        obtain ⟨xn1, xn2, rfl, -, -, -⟩ := q1.parts
        obtain ⟨sx, hsx⟩ : ∃ s, Hid (s = (⟨(formV x).toArray⟩ : ByteArray)) := ⟨_, rfl⟩
        have smx : sx.size ≤ 200000000 := by
          have := form_small (inV_of hvx) hmx.out
          rw [hsx.out, bytes_size]; omega
        have HX := Lib.hid hx
        have hvx := Lib.hid hvx
        have hpart2 : parts[j]? = some (formV x) := by rw [HPS.out, formVs_map, List.getElem?_map, HX.out]; rfl
        have hstep := joinC_step hpart2
        have hlen : (joinC (parts.take (j + 1))).length ≤ 200000000 := Nat.le_trans (joinC_take _ _) hsmall
        have HSTEP := Lib.hid hstep
        have HPART := Lib.hid hpart2
        have HLEN := Lib.hid hlen
        clear hstep hpart2 hpart hx q1 q2 hii hnn hlen
        have hj0' : (0 : Int) ≤ (j : Int) := by omega
        have hj1' : (j : Int) < (il : Int) := by omega
        by_cases hj0 : j = 0
        · have hz : ¬ 0 < j := by omega
          have hzi : ¬ (0 : Int) < (j : Int) := by omega
          have HJ0 := Lib.hid hj0
          clear hj0
          have hdat : (u ++ sx).data.toList = joinC (parts.take (j + 1)) := by
            rw [HSTEP.out, if_pos HJ0.out]
            simp only [Joins.data_append, List.append_assoc]
            rw [HU.out, hsx.out]
            simp [HJ0.out, joinC]
          have hszF : (u ++ sx).size ≤ 200000000 := by
            rw [← data_len, hdat]; exact HLEN.out
          have hszF2 : (u ++ sx).size = u.size + sx.size := by rw [← data_len, Joins.data_append, List.length_append, data_len, data_len]
          have HDAT := Lib.hid hdat
          clear hdat
          go_wp2_with fail
          refine (Encode_yes x _ _ hvx.out henv6.out hmx sx hsx).mono ?_
          rintro e w8 ⟨rfl, hb8⟩
          go_wp2_with fail
          refine ⟨⟨j + 1, _, by omega, by go_num, rfl, hszF, HDAT.out, below_more hbr hb8⟩, by simp [intOf]; omega⟩
        · have hz : 0 < j := by omega
          have hzi : (0 : Int) < (j : Int) := by omega
          have hsz44 : (u ++ (⟨#[44]⟩ : ByteArray)).size = u.size + 1 := by rw [← data_len, Joins.data_append, List.length_append, data_len]; rfl
          have HJ0 := Lib.hid hj0
          clear hj0
          have hdat : ((u ++ (⟨#[44]⟩ : ByteArray)) ++ sx).data.toList = joinC (parts.take (j + 1)) := by
            rw [HSTEP.out, if_neg HJ0.out]
            simp only [Joins.data_append, List.append_assoc]
            rw [HU.out, hsx.out]
            simp
          have hszF : ((u ++ (⟨#[44]⟩ : ByteArray)) ++ sx).size ≤ 200000000 := by
            rw [← data_len, hdat]; exact HLEN.out
          have hszF2 : ((u ++ (⟨#[44]⟩ : ByteArray)) ++ sx).size = (u ++ (⟨#[44]⟩ : ByteArray)).size + sx.size := by rw [← data_len, Joins.data_append, List.length_append, data_len, data_len]
          have HDAT := Lib.hid hdat
          clear hdat
          go_wp2_with fail
          refine (Encode_yes x _ _ hvx.out henv6.out hmx sx hsx).mono ?_
          rintro e w8 ⟨rfl, hb8⟩
          go_wp2_with fail
          refine ⟨⟨j + 1, _, by omega, by go_num, rfl, hszF, HDAT.out, below_more hbr hb8⟩, by simp [intOf]; omega⟩
      · have hall : u.data.toList = joinC parts := by
          have := HU.out
          rwa [List.take_of_length_le (by rw [HPL.out]; omega)] at this
        have hend : (sV.toList == ((⟨#[91]⟩ : ByteArray) ++ u ++ (⟨#[93]⟩ : ByteArray)).toList) = true := by
          refine str_eq ?_
          rw [Joins.data_append, Joins.data_append, hall, hsV.out, HFM.out]
          rfl
        have hsz1 : ((⟨#[91]⟩ : ByteArray) ++ u).size = u.size + 1 := by rw [← data_len, Joins.data_append, List.length_append, data_len]; show 1 + u.size = _; omega
        have hsz2 : ((⟨#[91]⟩ : ByteArray) ++ u ++ (⟨#[93]⟩ : ByteArray)).size = u.size + 2 := by rw [← data_len, Joins.data_append, Joins.data_append, List.length_append, List.length_append, data_len]; show 1 + u.size + 1 = _; omega
        clear hall
        go_wp2_with fail
        go_ret
        exact ⟨rfl, below_more hB5' hbr⟩
set_option maxRecDepth 100000 in
set_option maxHeartbeats 4000000 in
theorem canonParts_obj (V : JV) (v : Value) (w : World) (h : ValAt w V v) (henv : TabEnv w) (hmV : Hid (mayB V = true)) (hk : Hid (V.k = 5)) (hk4 : (V.k != 4) = true) (hk5 : (V.k != 5) = false) (hk5' : (V.k == 5) = true) :
    Calls Tryd.prog 6 #[v] w fun e w' => e = .returned (.bool true) ∧ Below w.heap.size w w' := by
  obtain ⟨vn, vi, rfl, k0, k1, n0, n1, ht, hns, his⟩ := valAt_iff.1 h
  obtain ⟨ai, icap, rfl, -, -⟩ := his.parts
  obtain ⟨an, ncap, rfl, -, -, -⟩ := hns.parts
  obtain ⟨w2, hw2⟩ : ∃ x, x = w.alloc (.cells #[.int .u8 V.k, .int .i64 V.n, .string V.t, .slice an V.names.length ncap, .slice ai V.items.length icap] 25) := ⟨_, rfl⟩
  have hB2 : Below w.heap.size w w2 := by rw [hw2]; exact bel_alloc (Below.refl _ _) _
  have s2 : w2.heap.size = w.heap.size + 1 := by rw [hw2, size_al]
  have a0 : w2.cell? ⟨w.heap.size, 0, none⟩ = some (.int .u8 V.k) := by rw [hw2, cell_al_eq _ _ _ _ _ rfl]; rfl
  have a1 : w2.cell? ⟨w.heap.size, 1, none⟩ = some (.int .i64 V.n) := by rw [hw2, cell_al_eq _ _ _ _ _ rfl]; rfl
  have a2 : w2.cell? ⟨w.heap.size, 2, none⟩ = some (.string V.t) := by rw [hw2, cell_al_eq _ _ _ _ _ rfl]; rfl
  have a3 : w2.cell? ⟨w.heap.size, 3, none⟩ = some (.slice an V.names.length ncap) := by rw [hw2, cell_al_eq _ _ _ _ _ rfl]; rfl
  have a4 : w2.cell? ⟨w.heap.size, 4, none⟩ = some (.slice ai V.items.length icap) := by rw [hw2, cell_al_eq _ _ _ _ _ rfl]; rfl
  have hV2 := Lib.hid (h.keep hB2)
  have henv2 := Lib.hid (henv.below hB2)
  obtain ⟨w3, hw3⟩ : ∃ x, x = w2.alloc (.cells #[.int .u8 V.k, .int .i64 V.n, .string V.t, .slice an V.names.length ncap, .slice ai V.items.length icap] 25) := ⟨_, rfl⟩
  have hB3 : Below w2.heap.size w2 w3 := by rw [hw3]; exact bel_alloc (Below.refl _ _) _
  have hIt : ItemsAt w3 (.slice (some ⟨w.heap.size + 1, 0, none⟩) 1 1) [V] := by
    have q : ∀ i, w3.cell? ⟨w.heap.size + 1, i, none⟩ = (#[.int .u8 V.k, .int .i64 V.n, .string V.t, .slice an V.names.length ncap, .slice ai V.items.length icap] : Array Value)[i]? := fun i => by rw [hw3, cell_al_eq _ _ _ _ _ (by omega)]
    exact itemsAt_len (l := [V]) rfl (rowAt_put (by rw [q]; rfl) (by rw [q]; rfl) (by rw [q]; rfl) (by rw [q]; rfl) (by rw [q]; rfl) (hV2.out.keep hB3) (rowAt_nil _ _ _))
  have HW3 := Lib.hid hw3
  have HW2 := Lib.hid hw2
  have HS2 := Lib.hid s2
  have HIT := Lib.hid hIt
  have s2le : w.heap.size + 1 ≤ w2.heap.size := by omega
  clear hw3 hw2 s2 hIt h henv
  obtain ⟨sV, hsV⟩ : ∃ s, Hid (s = (⟨(formV V).toArray⟩ : ByteArray)) := ⟨_, rfl⟩
  have HIV := Lib.hid (inV_of hV2.out)
  obtain ⟨il, HIL⟩ : ∃ n, Hid (V.items.length = n) := ⟨_, rfl⟩
  have hilm : il ≤ 9223372036854775807 := by
    obtain ⟨_, _, -, q, -⟩ := (valAt_iff.1 hV2.out).choose_spec.choose_spec.2.2.2.2.2.2.2.parts
    rw [← HIL.out]; exact q
  obtain ⟨parts, hparts⟩ : ∃ p, p = ((V.names.zip (formVs V.items)).map fun p => quoteL p.1.data.toList ++ 58 :: p.2) := ⟨_, rfl⟩
  have hpl : parts.length = il := by
    rw [hparts]
    rw [List.length_map, List.length_zip, formVs_map, List.length_map, (proper_obj (by have := ((mayB_iff V).1 hmV.out).1; rw [goodV_eq, Bool.and_eq_true] at this; exact this.1) hk.out).1, HIL.out]
    omega
  have hform : formV V = 123 :: (joinC parts ++ [125]) := by rw [formV_eq, hparts, hk.out]; rfl
  have hsmall : (joinC parts).length ≤ 200000000 := by
    have := form_small HIV.out hmV.out
    rw [hform] at this
    simp at this
    omega
  have HPS := Lib.hid hparts
  have HPL := Lib.hid hpl
  have HFM := Lib.hid hform
  clear hparts hpl hform
  go_enter Tryd.func6, Tryd.ntmps6
  go_wp2_with fail
  rw [← HW2.out, ← HW3.out]
  refine (long_any [V] _ _ HIT.out).mono ?_
  rintro e w3' ⟨r, rfl, hr, rfl⟩
  clear hr
  have a0 := cell_keep hB3 a0
  have a1 := cell_keep hB3 a1
  have a2 := cell_keep hB3 a2
  have a3 := cell_keep hB3 a3
  have a4 := cell_keep hB3 a4
  have hB3' := below_more hB2 hB3
  have henv3 := Lib.hid (henv2.out.below hB3)
  have hV3 := Lib.hid (hV2.out.keep hB3)
  cases r with
  | true =>
    go_wp2_with fail
    refine (canonAwake_any _ henv3.out).mono ?_
    rintro e w4 ⟨rfl, hb4⟩
    go_wp2_with fail
    go_ret
    exact ⟨rfl, below_more hB3' hb4⟩
  | false =>
    go_wp2_with fail
    refine (canonAwake_any _ henv3.out).mono ?_
    rintro e w4 ⟨rfl, hb4⟩
    have a0 := cell_keep hb4 a0
    have a1 := cell_keep hb4 a1
    have a2 := cell_keep hb4 a2
    have a3 := cell_keep hb4 a3
    have a4 := cell_keep hb4 a4
    have hB4' := below_more hB3' hb4
    have henv4 := Lib.hid (henv3.out.below hb4)
    have hV4 := Lib.hid (hV3.out.keep hb4)
    go_wp2_with fail
    refine (Encode_yes V _ _ hV4.out henv4.out hmV sV hsV).mono ?_
    rintro e w5 ⟨rfl, hb5⟩
    have a0 := cell_keep hb5 a0
    have a1 := cell_keep hb5 a1
    have a2 := cell_keep hb5 a2
    have a3 := cell_keep hb5 a3
    have a4 := cell_keep hb5 a4
    have hB5' := below_more hB4' hb5
    have henv5 := Lib.hid (henv4.out.below hb5)
    have hV5 := Lib.hid (hV4.out.keep hb5)
    rw [HIL.out] at a4
    go_wp2_with fail
    go_loopw [5, 6] (fun s i wr => ∃ (j : Nat) (u : ByteArray), j ≤ il ∧ i = .int .i64 j ∧ s = .string u ∧ u.size ≤ 200000000 ∧ Hid (u.data.toList = joinC (parts.take j)) ∧ Below w5.heap.size w5 wr) (fun _ i _ => il - (intOf i).toNat)
    case atStart => exact ⟨0, ⟨#[]⟩, by omega, rfl, rfl, by decide, by simp [Hid, joinC], Below.refl _ _⟩
    case round =>
      obtain ⟨j, u, hj, rfl, rfl, hu, HU, hbr⟩ := hrel
      have c0 := cell_keep hbr a0
      have c3 := cell_keep hbr a3
      have c4 := cell_keep hbr a4
      have hV6 := Lib.hid (hV5.out.keep hbr)
      have henv6 := Lib.hid (henv5.out.below hbr)
      by_cases hjl : j < il
      · obtain ⟨x, hx⟩ : ∃ x, V.items[j]? = some x := ⟨_, List.getElem?_eq_getElem (by rw [HIL.out]; exact hjl)⟩
        have hmx : Hid (mayB x = true) := may_item hmV.out (by rw [hk.out]; simp) (List.mem_of_getElem? hx)
        obtain ⟨_, _, e1, -, -, -, -, -, hnn, hii⟩ := valAt_iff.1 hV6.out
        simp only [Value.agg.injEq, Array.mk.injEq, List.cons.injEq, true_and, and_true] at e1
        obtain ⟨rfl, rfl⟩ := e1
        obtain ⟨_, _, e', -, hpart⟩ := hii.parts
        simp only [Value.slice.injEq] at e'
        obtain ⟨rfl, -, rfl⟩ := e'
        obtain ⟨xb, xo, xn, xi, rfl, x0, x1, x2, x3, x4, q⟩ := hpart j x hx
        have hvx := valAt_iff.2 ⟨xn, xi, rfl, q⟩
        obtain ⟨-, -, -, -, -, q1, q2⟩ := q
        obtain ⟨xi1, xi2, rfl, -, -⟩ := q2.parts
        obtain ⟨xn1, xn2, rfl, -, -, -⟩ := q1.parts
        obtain ⟨sx, hsx⟩ : ∃ s, Hid (s = (⟨(formV x).toArray⟩ : ByteArray)) := ⟨_, rfl⟩
        have smx : sx.size ≤ 200000000 := by
          have := form_small (inV_of hvx) hmx.out
          rw [hsx.out, bytes_size]; omega
        have HX := Lib.hid hx
        have hvx := Lib.hid hvx
        obtain ⟨s, hs⟩ : ∃ s, V.names[j]? = some s := ⟨_, List.getElem?_eq_getElem (by
          have := HPL.out
          rw [HPS.out, List.length_map, List.length_zip] at this
          omega)⟩
        obtain ⟨_, _, e'', -, hnm, hncell⟩ := hnn.parts
        simp only [Value.slice.injEq] at e''
        obtain ⟨rfl, -, rfl⟩ := e''
        have hnl : j < V.names.length := (List.getElem?_eq_some_iff.1 hs).1
        obtain ⟨nb, no_, rfl, hnc⟩ := hncell j s hs
        have hms : Hid (mayB (JV.text s) = true) := text_may (may_name hmV.out hk.out (List.mem_of_getElem? hs))
        have hwr := may_name hmV.out hk.out (List.mem_of_getElem? hs)
        have hssz : s.size ≤ maxLen := hnm s (List.mem_of_getElem? hs)
        obtain ⟨sn, hsn⟩ : ∃ z, Hid (z = (⟨(formV (JV.text s)).toArray⟩ : ByteArray)) := ⟨_, rfl⟩
        have smn : sn.size ≤ 8194 := by
          rw [hsn.out, bytes_size, text_form]
          exact quote_len hwr
        have hpart2 : parts[j]? = some (quoteL s.data.toList ++ 58 :: formV x) := by
          rw [HPS.out, List.getElem?_map]
          have : (V.names.zip (formVs V.items))[j]? = some (s, formV x) := by
            rw [List.getElem?_zip_eq_some]
            exact ⟨hs, by rw [formVs_map, List.getElem?_map, HX.out]; rfl⟩
          rw [this]; rfl
        have hnl2 : (j : Int) < (V.names.length : Int) := by omega
        have hstep := joinC_step hpart2
        have hlen : (joinC (parts.take (j + 1))).length ≤ 200000000 := Nat.le_trans (joinC_take _ _) hsmall
        have HSTEP := Lib.hid hstep
        have HPART := Lib.hid hpart2
        have HLEN := Lib.hid hlen
        clear hstep hpart2 hpart hx q1 q2 hii hnn hlen hncell hs hnm
        have hj0' : (0 : Int) ≤ (j : Int) := by omega
        have hj1' : (j : Int) < (il : Int) := by omega
        by_cases hj0 : j = 0
        · have hz : ¬ 0 < j := by omega
          have hzi : ¬ (0 : Int) < (j : Int) := by omega
          have HJ0 := Lib.hid hj0
          clear hj0
          have hszN : (u ++ sn).size = u.size + sn.size := by rw [← data_len, Joins.data_append, List.length_append, data_len, data_len]
          have hszC : (u ++ sn ++ (⟨#[58]⟩ : ByteArray)).size = u.size + sn.size + 1 := by rw [← data_len, Joins.data_append, Joins.data_append, List.length_append, List.length_append, data_len, data_len]; rfl
          go_wp2_with fail
          refine (lawText_any s _).mono ?_
          rintro e w6 ⟨rfl, hb6⟩
          have c0 := cell_keep hb6 c0
          have c3 := cell_keep hb6 c3
          have c4 := cell_keep hb6 c4
          go_wp2_with fail
          refine (Encode_yes (JV.text s) _ _ (valAt_text _ s hssz) (henv6.out.below hb6) hms sn hsn).mono ?_
          rintro e w7 ⟨rfl, hb7⟩
          have c0 := cell_keep hb7 c0
          have c3 := cell_keep hb7 c3
          have c4 := cell_keep hb7 c4
          have hb67 := below_more hb6 hb7
          have x0 := cell_keep hb67 x0
          have x1 := cell_keep hb67 x1
          have x2 := cell_keep hb67 x2
          have x3 := cell_keep hb67 x3
          have x4 := cell_keep hb67 x4
          have hdat : ((u ++ sn ++ (⟨#[58]⟩ : ByteArray)) ++ sx).data.toList = joinC (parts.take (j + 1)) := by
            rw [HSTEP.out, if_pos HJ0.out]
            simp only [Joins.data_append, List.append_assoc]
            rw [HU.out, hsx.out, hsn.out, text_form]
            simp [HJ0.out, joinC]
          have hszF : ((u ++ sn ++ (⟨#[58]⟩ : ByteArray)) ++ sx).size ≤ 200000000 := by
            rw [← data_len, hdat]; exact HLEN.out
          have hszF2 : ((u ++ sn ++ (⟨#[58]⟩ : ByteArray)) ++ sx).size = (u ++ sn ++ (⟨#[58]⟩ : ByteArray)).size + sx.size := by rw [← data_len, Joins.data_append, List.length_append, data_len, data_len]
          have HDAT := Lib.hid hdat
          clear hdat
          go_wp2_with fail
          refine (Encode_yes x _ _ (hvx.out.keep hb67) (henv6.out.below hb67) hmx sx hsx).mono ?_
          rintro e w8 ⟨rfl, hb8⟩
          go_wp2_with fail
          refine ⟨⟨j + 1, _, by omega, by go_num, rfl, hszF, HDAT.out, below_more (below_more hbr hb67) hb8⟩, by simp [intOf]; omega⟩
        · have hz : 0 < j := by omega
          have hzi : (0 : Int) < (j : Int) := by omega
          have hsz44 : (u ++ (⟨#[44]⟩ : ByteArray)).size = u.size + 1 := by rw [← data_len, Joins.data_append, List.length_append, data_len]; rfl
          have HJ0 := Lib.hid hj0
          clear hj0
          have hszN : ((u ++ (⟨#[44]⟩ : ByteArray)) ++ sn).size = (u ++ (⟨#[44]⟩ : ByteArray)).size + sn.size := by rw [← data_len, Joins.data_append, List.length_append, data_len, data_len]
          have hszC : ((u ++ (⟨#[44]⟩ : ByteArray)) ++ sn ++ (⟨#[58]⟩ : ByteArray)).size = (u ++ (⟨#[44]⟩ : ByteArray)).size + sn.size + 1 := by rw [← data_len, Joins.data_append, Joins.data_append, List.length_append, List.length_append, data_len, data_len]; rfl
          go_wp2_with fail
          refine (lawText_any s _).mono ?_
          rintro e w6 ⟨rfl, hb6⟩
          have c0 := cell_keep hb6 c0
          have c3 := cell_keep hb6 c3
          have c4 := cell_keep hb6 c4
          go_wp2_with fail
          refine (Encode_yes (JV.text s) _ _ (valAt_text _ s hssz) (henv6.out.below hb6) hms sn hsn).mono ?_
          rintro e w7 ⟨rfl, hb7⟩
          have c0 := cell_keep hb7 c0
          have c3 := cell_keep hb7 c3
          have c4 := cell_keep hb7 c4
          have hb67 := below_more hb6 hb7
          have x0 := cell_keep hb67 x0
          have x1 := cell_keep hb67 x1
          have x2 := cell_keep hb67 x2
          have x3 := cell_keep hb67 x3
          have x4 := cell_keep hb67 x4
          have hdat : (((u ++ (⟨#[44]⟩ : ByteArray)) ++ sn ++ (⟨#[58]⟩ : ByteArray)) ++ sx).data.toList = joinC (parts.take (j + 1)) := by
            rw [HSTEP.out, if_neg HJ0.out]
            simp only [Joins.data_append, List.append_assoc]
            rw [HU.out, hsx.out, hsn.out, text_form]
            simp
          have hszF : (((u ++ (⟨#[44]⟩ : ByteArray)) ++ sn ++ (⟨#[58]⟩ : ByteArray)) ++ sx).size ≤ 200000000 := by
            rw [← data_len, hdat]; exact HLEN.out
          have hszF2 : (((u ++ (⟨#[44]⟩ : ByteArray)) ++ sn ++ (⟨#[58]⟩ : ByteArray)) ++ sx).size = ((u ++ (⟨#[44]⟩ : ByteArray)) ++ sn ++ (⟨#[58]⟩ : ByteArray)).size + sx.size := by rw [← data_len, Joins.data_append, List.length_append, data_len, data_len]
          have HDAT := Lib.hid hdat
          clear hdat
          go_wp2_with fail
          refine (Encode_yes x _ _ (hvx.out.keep hb67) (henv6.out.below hb67) hmx sx hsx).mono ?_
          rintro e w8 ⟨rfl, hb8⟩
          go_wp2_with fail
          refine ⟨⟨j + 1, _, by omega, by go_num, rfl, hszF, HDAT.out, below_more (below_more hbr hb67) hb8⟩, by simp [intOf]; omega⟩
      · have hall : u.data.toList = joinC parts := by
          have := HU.out
          rwa [List.take_of_length_le (by rw [HPL.out]; omega)] at this
        have hend : (sV.toList == ((⟨#[123]⟩ : ByteArray) ++ u ++ (⟨#[125]⟩ : ByteArray)).toList) = true := by
          refine str_eq ?_
          rw [Joins.data_append, Joins.data_append, hall, hsV.out, HFM.out]
          rfl
        have hsz1 : ((⟨#[123]⟩ : ByteArray) ++ u).size = u.size + 1 := by rw [← data_len, Joins.data_append, List.length_append, data_len]; show 1 + u.size = _; omega
        have hsz2 : ((⟨#[123]⟩ : ByteArray) ++ u ++ (⟨#[125]⟩ : ByteArray)).size = u.size + 2 := by rw [← data_len, Joins.data_append, Joins.data_append, List.length_append, List.length_append, data_len]; show 1 + u.size + 1 = _; omega
        clear hall
        go_wp2_with fail
        go_ret
        exact ⟨rfl, below_more hB5' hbr⟩
theorem canonParts_walk (V : JV) (v : Value) (w : World) (h : ValAt w V v) (henv : TabEnv w) :
    Calls Tryd.prog 6 #[v] w fun e w' => e = .returned (.bool true) ∧ Below w.heap.size w w' := by
  cases hm : mayB V with
  | false => exact canonParts_no V v w h henv hm
  | true =>
    by_cases h4 : V.k = 4
    · exact canonParts_list V v w h henv hm h4 (by rw [h4]; rfl) (by rw [h4]; rfl)
    · by_cases h5 : V.k = 5
      · exact canonParts_obj V v w h henv hm h5 (by rw [h5]; rfl) (by rw [h5]; rfl) (by rw [h5]; rfl)
      · exact canonParts_leaf V v w h henv hm (by simpa using h4) (by simpa using h5)
end Go.Proofs.YtjekdhahbkofbaaDoor
