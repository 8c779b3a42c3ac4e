/-
  The walk of the law CanonEnds.
-/
import Derived.Test.YtjekdhahbkofbaaDoorCanonAwake
import Derived.Test.YtjekdhahbkofbaaDoorSame
namespace Go.Proofs.YtjekdhahbkofbaaDoor
open Go.RowKit

set_option maxRecDepth 100000 in
set_option maxHeartbeats 4000000 in
theorem canonEnds_walk (V W : JV) (v u : Value) (w : World) (h : ValAt w V v) (h2 : ValAt w W u) (henv : TabEnv w) :
    Calls Tryd.prog 7 #[v, u] w fun e w' => e = .returned (.bool true) ∧ Below w.heap.size w w' := by
  obtain ⟨vn, vi, rfl, k0, k1, n0, n1, ht, hns, his⟩ := valAt_iff.1 h
  obtain ⟨ai, icap, rfl, -, -⟩ := his.parts
  obtain ⟨an, ncap, rfl, -, -, -⟩ := hns.parts
  obtain ⟨un, ui, rfl, l0, l1, m0, m1, ht2, hms, hjs⟩ := valAt_iff.1 h2
  obtain ⟨bi, jcap, rfl, -, -⟩ := hjs.parts
  obtain ⟨bn, mcap, rfl, -, -, -⟩ := hms.parts
  obtain ⟨w2, hw2⟩ : ∃ x, x = ((w.alloc (.cells #[.int .u8 V.k, .int .i64 V.n, .string V.t, .slice an V.names.length ncap, .slice ai V.items.length icap] 25)).alloc (.cells #[.int .u8 W.k, .int .i64 W.n, .string W.t, .slice bn W.names.length mcap, .slice bi W.items.length jcap] 25)) := ⟨_, rfl⟩
  have hB2 : Below w.heap.size w w2 := by rw [hw2]; exact bel_alloc (bel_alloc (Below.refl _ _) _) _
  have s2 : w2.heap.size = w.heap.size + 2 := by rw [hw2, size_al, size_al]
  have a0 : w2.cell? ⟨w.heap.size, 0, none⟩ = some (.int .u8 V.k) := by rw [hw2, cell_al_lt _ _ _ _ (by rw [size_al]; omega), cell_al_eq _ _ _ _ _ rfl]; rfl
  have a1 : w2.cell? ⟨w.heap.size, 1, none⟩ = some (.int .i64 V.n) := by rw [hw2, cell_al_lt _ _ _ _ (by rw [size_al]; omega), cell_al_eq _ _ _ _ _ rfl]; rfl
  have a2 : w2.cell? ⟨w.heap.size, 2, none⟩ = some (.string V.t) := by rw [hw2, cell_al_lt _ _ _ _ (by rw [size_al]; omega), cell_al_eq _ _ _ _ _ rfl]; rfl
  have a3 : w2.cell? ⟨w.heap.size, 3, none⟩ = some (.slice an V.names.length ncap) := by rw [hw2, cell_al_lt _ _ _ _ (by rw [size_al]; omega), cell_al_eq _ _ _ _ _ rfl]; rfl
  have a4 : w2.cell? ⟨w.heap.size, 4, none⟩ = some (.slice ai V.items.length icap) := by rw [hw2, cell_al_lt _ _ _ _ (by rw [size_al]; omega), cell_al_eq _ _ _ _ _ rfl]; rfl
  have b0 : w2.cell? ⟨w.heap.size + 1, 0, none⟩ = some (.int .u8 W.k) := by rw [hw2, cell_al_eq _ _ _ _ _ (by rw [size_al])]; rfl
  have b1 : w2.cell? ⟨w.heap.size + 1, 1, none⟩ = some (.int .i64 W.n) := by rw [hw2, cell_al_eq _ _ _ _ _ (by rw [size_al])]; rfl
  have b2 : w2.cell? ⟨w.heap.size + 1, 2, none⟩ = some (.string W.t) := by rw [hw2, cell_al_eq _ _ _ _ _ (by rw [size_al])]; rfl
  have b3 : w2.cell? ⟨w.heap.size + 1, 3, none⟩ = some (.slice bn W.names.length mcap) := by rw [hw2, cell_al_eq _ _ _ _ _ (by rw [size_al])]; rfl
  have b4 : w2.cell? ⟨w.heap.size + 1, 4, none⟩ = some (.slice bi W.items.length jcap) := by rw [hw2, cell_al_eq _ _ _ _ _ (by rw [size_al])]; rfl
  have hV2 := Lib.hid (h.keep hB2)
  have hW2 := Lib.hid (h2.keep hB2)
  have henv2 := Lib.hid (henv.below hB2)
  obtain ⟨w3, hw3⟩ : ∃ x, x = w2.alloc (.cells #[.int .u8 V.k, .int .i64 V.n, .string V.t, .slice an V.names.length ncap, .slice ai V.items.length icap, .int .u8 W.k, .int .i64 W.n, .string W.t, .slice bn W.names.length mcap, .slice bi W.items.length jcap] 25) := ⟨_, rfl⟩
  have hB3 : Below w2.heap.size w2 w3 := by rw [hw3]; exact bel_alloc (Below.refl _ _) _
  have hIt : ItemsAt w3 (.slice (some ⟨w.heap.size + 1 + 1, 0, none⟩) 2 2) [V, W] := by
    have q : ∀ i, w3.cell? ⟨w.heap.size + 1 + 1, i, none⟩ = (#[.int .u8 V.k, .int .i64 V.n, .string V.t, .slice an V.names.length ncap, .slice ai V.items.length icap, .int .u8 W.k, .int .i64 W.n, .string W.t, .slice bn W.names.length mcap, .slice bi W.items.length jcap] : Array Value)[i]? := fun i => by rw [hw3, cell_al_eq _ _ _ _ _ (by omega)]
    exact itemsAt_len (l := [V, W]) rfl (rowAt_put (by rw [q]; rfl) (by rw [q]; rfl) (by rw [q]; rfl) (by rw [q]; rfl) (by rw [q]; rfl) (hV2.out.keep hB3) (rowAt_put (by rw [q]; rfl) (by rw [q]; rfl) (by rw [q]; rfl) (by rw [q]; rfl) (by rw [q]; rfl) (hW2.out.keep hB3) (rowAt_nil _ _ _)))
  have HW3 := Lib.hid hw3
  have HW2 := Lib.hid hw2
  have HS2 := Lib.hid s2
  have HIT := Lib.hid hIt
  have s2le : w.heap.size + 2 ≤ w2.heap.size := by omega
  clear hw3 hw2 s2 hIt h henv h2
  obtain ⟨sV, hsV⟩ : ∃ s, Hid (s = (⟨(formV V).toArray⟩ : ByteArray)) := ⟨_, rfl⟩
  obtain ⟨sW, hsW⟩ : ∃ s, Hid (s = (⟨(formV W).toArray⟩ : ByteArray)) := ⟨_, rfl⟩
  have HINV := Lib.hid (inV_of hV2.out)
  have HINW := Lib.hid (inV_of hW2.out)
  go_enter Tryd.func7, Tryd.ntmps7
  go_wp2_with fail
  rw [← HW2.out, ← HW3.out]
  refine (long_any [V, W] _ _ HIT.out).mono ?_
  rintro e w3' ⟨r, rfl, hr, rfl⟩
  clear hr
  have a0 := cell_keep hB3 a0
  have a1 := cell_keep hB3 a1
  have a2 := cell_keep hB3 a2
  have a3 := cell_keep hB3 a3
  have a4 := cell_keep hB3 a4
  have b0 := cell_keep hB3 b0
  have b1 := cell_keep hB3 b1
  have b2 := cell_keep hB3 b2
  have b3 := cell_keep hB3 b3
  have b4 := cell_keep hB3 b4
  have hB3' := below_more hB2 hB3
  have henv3 := Lib.hid (henv2.out.below hB3)
  have hV3 := Lib.hid (hV2.out.keep hB3)
  have hW3 := Lib.hid (hW2.out.keep hB3)
  cases r with
  | true =>
    go_wp2_with fail
    refine (canonAwake_any _ henv3.out).mono ?_
    rintro e w4 ⟨rfl, hb4⟩
    go_wp2_with fail
    go_ret
    exact ⟨rfl, below_more hB3' hb4⟩
  | false =>
    go_wp2_with fail
    refine (canonAwake_any _ henv3.out).mono ?_
    rintro e w4 ⟨rfl, hb4⟩
    have a0 := cell_keep hb4 a0
    have a1 := cell_keep hb4 a1
    have a2 := cell_keep hb4 a2
    have a3 := cell_keep hb4 a3
    have a4 := cell_keep hb4 a4
    have b0 := cell_keep hb4 b0
    have b1 := cell_keep hb4 b1
    have b2 := cell_keep hb4 b2
    have b3 := cell_keep hb4 b3
    have b4 := cell_keep hb4 b4
    have hB4' := below_more hB3' hb4
    have henv4 := Lib.hid (henv3.out.below hb4)
    have hV4 := Lib.hid (hV3.out.keep hb4)
    have hW4 := Lib.hid (hW3.out.keep hb4)
    obtain ⟨mV, hmV⟩ : ∃ m, Hid (mayB V = m) := ⟨_, rfl⟩
    obtain ⟨mW, hmW⟩ : ∃ m, Hid (mayB W = m) := ⟨_, rfl⟩
    cases mV <;> cases mW
    · go_wp2_with fail
      refine (Encode_no V _ _ hV4.out henv4.out hmV).mono ?_
      rintro e w5 ⟨rfl, hb5⟩
      have a0 := cell_keep hb5 a0
      have a1 := cell_keep hb5 a1
      have a2 := cell_keep hb5 a2
      have a3 := cell_keep hb5 a3
      have a4 := cell_keep hb5 a4
      have b0 := cell_keep hb5 b0
      have b1 := cell_keep hb5 b1
      have b2 := cell_keep hb5 b2
      have b3 := cell_keep hb5 b3
      have b4 := cell_keep hb5 b4
      have hB5' := below_more hB4' hb5
      have henv5 := Lib.hid (henv4.out.below hb5)
      have hV5 := Lib.hid (hV4.out.keep hb5)
      have hW5 := Lib.hid (hW4.out.keep hb5)
      go_wp2_with fail
      refine (Encode_no W _ _ hW5.out henv5.out hmW).mono ?_
      rintro e w6 ⟨rfl, hb6⟩
      have a0 := cell_keep hb6 a0
      have a1 := cell_keep hb6 a1
      have a2 := cell_keep hb6 a2
      have a3 := cell_keep hb6 a3
      have a4 := cell_keep hb6 a4
      have b0 := cell_keep hb6 b0
      have b1 := cell_keep hb6 b1
      have b2 := cell_keep hb6 b2
      have b3 := cell_keep hb6 b3
      have b4 := cell_keep hb6 b4
      have hB6' := below_more hB5' hb6
      have henv6 := Lib.hid (henv5.out.below hb6)
      have hV6 := Lib.hid (hV5.out.keep hb6)
      have hW6 := Lib.hid (hW5.out.keep hb6)
      go_wp2_with fail
      go_ret
      exact ⟨rfl, hB6'⟩
    · go_wp2_with fail
      refine (Encode_no V _ _ hV4.out henv4.out hmV).mono ?_
      rintro e w5 ⟨rfl, hb5⟩
      have a0 := cell_keep hb5 a0
      have a1 := cell_keep hb5 a1
      have a2 := cell_keep hb5 a2
      have a3 := cell_keep hb5 a3
      have a4 := cell_keep hb5 a4
      have b0 := cell_keep hb5 b0
      have b1 := cell_keep hb5 b1
      have b2 := cell_keep hb5 b2
      have b3 := cell_keep hb5 b3
      have b4 := cell_keep hb5 b4
      have hB5' := below_more hB4' hb5
      have henv5 := Lib.hid (henv4.out.below hb5)
      have hV5 := Lib.hid (hV4.out.keep hb5)
      have hW5 := Lib.hid (hW4.out.keep hb5)
      go_wp2_with fail
      refine (Encode_yes W _ _ hW5.out henv5.out hmW sW hsW).mono ?_
      rintro e w6 ⟨rfl, hb6⟩
      have a0 := cell_keep hb6 a0
      have a1 := cell_keep hb6 a1
      have a2 := cell_keep hb6 a2
      have a3 := cell_keep hb6 a3
      have a4 := cell_keep hb6 a4
      have b0 := cell_keep hb6 b0
      have b1 := cell_keep hb6 b1
      have b2 := cell_keep hb6 b2
      have b3 := cell_keep hb6 b3
      have b4 := cell_keep hb6 b4
      have hB6' := below_more hB5' hb6
      have henv6 := Lib.hid (henv5.out.below hb6)
      have hV6 := Lib.hid (hV5.out.keep hb6)
      have hW6 := Lib.hid (hW5.out.keep hb6)
      go_wp2_with fail
      go_ret
      exact ⟨rfl, hB6'⟩
    · go_wp2_with fail
      refine (Encode_yes V _ _ hV4.out henv4.out hmV sV hsV).mono ?_
      rintro e w5 ⟨rfl, hb5⟩
      have a0 := cell_keep hb5 a0
      have a1 := cell_keep hb5 a1
      have a2 := cell_keep hb5 a2
      have a3 := cell_keep hb5 a3
      have a4 := cell_keep hb5 a4
      have b0 := cell_keep hb5 b0
      have b1 := cell_keep hb5 b1
      have b2 := cell_keep hb5 b2
      have b3 := cell_keep hb5 b3
      have b4 := cell_keep hb5 b4
      have hB5' := below_more hB4' hb5
      have henv5 := Lib.hid (henv4.out.below hb5)
      have hV5 := Lib.hid (hV4.out.keep hb5)
      have hW5 := Lib.hid (hW4.out.keep hb5)
      go_wp2_with fail
      refine (Encode_no W _ _ hW5.out henv5.out hmW).mono ?_
      rintro e w6 ⟨rfl, hb6⟩
      have a0 := cell_keep hb6 a0
      have a1 := cell_keep hb6 a1
      have a2 := cell_keep hb6 a2
      have a3 := cell_keep hb6 a3
      have a4 := cell_keep hb6 a4
      have b0 := cell_keep hb6 b0
      have b1 := cell_keep hb6 b1
      have b2 := cell_keep hb6 b2
      have b3 := cell_keep hb6 b3
      have b4 := cell_keep hb6 b4
      have hB6' := below_more hB5' hb6
      have henv6 := Lib.hid (henv5.out.below hb6)
      have hV6 := Lib.hid (hV5.out.keep hb6)
      have hW6 := Lib.hid (hW5.out.keep hb6)
      go_wp2_with fail
      go_ret
      exact ⟨rfl, hB6'⟩
    · go_wp2_with fail
      refine (Encode_yes V _ _ hV4.out henv4.out hmV sV hsV).mono ?_
      rintro e w5 ⟨rfl, hb5⟩
      have a0 := cell_keep hb5 a0
      have a1 := cell_keep hb5 a1
      have a2 := cell_keep hb5 a2
      have a3 := cell_keep hb5 a3
      have a4 := cell_keep hb5 a4
      have b0 := cell_keep hb5 b0
      have b1 := cell_keep hb5 b1
      have b2 := cell_keep hb5 b2
      have b3 := cell_keep hb5 b3
      have b4 := cell_keep hb5 b4
      have hB5' := below_more hB4' hb5
      have henv5 := Lib.hid (henv4.out.below hb5)
      have hV5 := Lib.hid (hV4.out.keep hb5)
      have hW5 := Lib.hid (hW4.out.keep hb5)
      go_wp2_with fail
      refine (Encode_yes W _ _ hW5.out henv5.out hmW sW hsW).mono ?_
      rintro e w6 ⟨rfl, hb6⟩
      have a0 := cell_keep hb6 a0
      have a1 := cell_keep hb6 a1
      have a2 := cell_keep hb6 a2
      have a3 := cell_keep hb6 a3
      have a4 := cell_keep hb6 a4
      have b0 := cell_keep hb6 b0
      have b1 := cell_keep hb6 b1
      have b2 := cell_keep hb6 b2
      have b3 := cell_keep hb6 b3
      have b4 := cell_keep hb6 b4
      have hB6' := below_more hB5' hb6
      have henv6 := Lib.hid (henv5.out.below hb6)
      have hV6 := Lib.hid (hV5.out.keep hb6)
      have hW6 := Lib.hid (hW5.out.keep hb6)
      by_cases hk : V.k = 2
      · have hkb : (V.k == 2) = true := by rw [hk]; rfl
        clear hk
        go_wp2_with fail
        go_ret
        exact ⟨rfl, hB6'⟩
      · have hkb : (V.k == 2) = false := beq_eq_false_iff_ne.2 hk
        have HK := Lib.hid hk
        clear hk
        have smV : sV.size ≤ 1000000000 := by
          have := form_small HINV.out hmV.out
          rw [hsV.out, bytes_size]; omega
        have smW : sW.size ≤ 1000000000 := by
          have := form_small HINW.out hmW.out
          rw [hsW.out, bytes_size]; omega
        by_cases hl : sW.size < sV.size
        · go_wp2_with fail
          go_ret
          exact ⟨rfl, hB6'⟩
        · have hfin : (sW.extract 0 sV.size).toList = sV.toList → sV.toList = sW.toList := by
            intro he
            rw [toList_data, toList_data, Lib.extract_data] at he
            rw [toList_data, toList_data]
            have e1 : sV.data.toList = formV V := by rw [hsV.out]
            have e2 : sW.data.toList = formV W := by rw [hsW.out]
            rw [e1, e2] at he ⊢
            simp only [List.drop_zero] at he
            have hn : sV.size = (formV V).length := by rw [hsV.out, bytes_size]
            rw [hn, Nat.sub_zero] at he
            have h3 : formV V ++ (formV W).drop (formV V).length = formV W := by
              conv => lhs; arg 1; rw [← he]
              exact List.take_append_drop _ _
            have := may_front hmV.out hmW.out HK.out h3
            rw [this, List.append_nil] at h3
            exact h3
          obtain ⟨c, hc⟩ : ∃ c, ((sW.extract 0 sV.size).toList == sV.toList) = c := ⟨_, rfl⟩
          cases c with
          | false =>
            clear hfin
            go_wp2_with fail
            go_ret
            exact ⟨rfl, hB6'⟩
          | true =>
            have hd : (sV.toList == sW.toList) = true := by rw [beq_iff_eq] at hc ⊢; exact hfin hc
            clear hfin
            go_wp2_with fail
            go_ret
            exact ⟨rfl, hB6'⟩
end Go.Proofs.YtjekdhahbkofbaaDoor
