/-
  legateref10: the document's form of a value, walked.
-/
import Derived.Test.YtjekdhahbkofbaaDoorCanonRef
import Derived.Test.YtjekdhahbkofbaaDoorNumRefShow
import Derived.Test.YtjekdhahbkofbaaDoorCanonEnc
namespace Go.Proofs.YtjekdhahbkofbaaDoor
open Go.RowKit

theorem dlen (s : ByteArray) : s.data.toList.length = s.size := size_len s
theorem zip_part {names : List ByteArray} {items : List JV} {j : Nat} {s : ByteArray} {x : JV} (hs : names[j]? = some s) (hx : items[j]? = some x) : ((names.zip (formVs items)).map fun p => quoteL p.1.data.toList ++ 58 :: p.2)[j]? = some (quoteL s.data.toList ++ 58 :: formV x) := by
  rw [List.getElem?_map]
  have : (names.zip (formVs items))[j]? = some (s, formV x) := by
    rw [List.getElem?_zip_eq_some]
    exact ⟨hs, by rw [formVs_map, List.getElem?_map, hx]; rfl⟩
  rw [this]; rfl
theorem joinC_part {xs : List (List UInt8)} {j : Nat} {y : List UInt8} (h : xs[j]? = some y) : y.length ≤ (joinC xs).length := by
  have h1 := joinC_take xs (j + 1)
  rw [joinC_step h] at h1
  split at h1
  · exact h1
  · simp at h1; omega
set_option maxRecDepth 100000 in
set_option maxHeartbeats 4000000 in
theorem refForm_1 (V : JV) (v : Value) (w : World) (h : ValAt w V v) (hg : goodV V = true) (hk : Hid (V.k = 1)) :
    Calls Tryd.prog 40 #[v] w fun e w' => e = .returned (.string ⟨(formV V).toArray⟩) ∧ Below w.heap.size w w' := by
  obtain ⟨vn, vi, rfl, k0, k1, n0, n1, ht, hns, his⟩ := valAt_iff.1 h
  obtain ⟨ai, icap, rfl, hI1, -⟩ := his.parts
  obtain ⟨an, ncap, rfl, -, -, -⟩ := hns.parts
  obtain ⟨w2, hw2⟩ : ∃ x, x = w.alloc (.cells #[.int .u8 V.k, .int .i64 V.n, .string V.t, .slice an V.names.length ncap, .slice ai V.items.length icap] 25) := ⟨_, rfl⟩
  have hB2 : Below w.heap.size w w2 := by rw [hw2]; exact bel_alloc (Below.refl _ _) _
  have a0 : w2.cell? ⟨w.heap.size, 0, none⟩ = some (.int .u8 V.k) := by rw [hw2, cell_al_eq _ _ _ _ _ rfl]; rfl
  have a1 : w2.cell? ⟨w.heap.size, 1, none⟩ = some (.int .i64 V.n) := by rw [hw2, cell_al_eq _ _ _ _ _ rfl]; rfl
  have a2 : w2.cell? ⟨w.heap.size, 2, none⟩ = some (.string V.t) := by rw [hw2, cell_al_eq _ _ _ _ _ rfl]; rfl
  have a3 : w2.cell? ⟨w.heap.size, 3, none⟩ = some (.slice an V.names.length ncap) := by rw [hw2, cell_al_eq _ _ _ _ _ rfl]; rfl
  have a4 : w2.cell? ⟨w.heap.size, 4, none⟩ = some (.slice ai V.items.length icap) := by rw [hw2, cell_al_eq _ _ _ _ _ rfl]; rfl
  have hV2 := Lib.hid (h.keep hB2)
  have HW := Lib.hid hw2
  have hform := formV_eq V
  have HG := Lib.hid hg
  clear hw2 h hns his hg
  have q1 : (V.k == 1) = true := by rw [hk.out]; rfl
  have q2 : (V.k == 2) = false := by rw [hk.out]; rfl
  have q3 : (V.k == 3) = false := by rw [hk.out]; rfl
  have q4 : (V.k == 4) = false := by rw [hk.out]; rfl
  have q5 : (V.k == 5) = false := by rw [hk.out]; rfl
  rw [hk.out] at hform
  by_cases hn : V.n = 1
  · have hnb : (V.n == 1) = true := by rw [hn]; rfl
    rw [hn] at hform
    have HF := Lib.hid hform
    clear hform hn
    go_enter Tryd.func40, Tryd.ntmps40
    go_wp2_with fail
    rw [← HW.out]
    go_ret
    exact ⟨by rw [HF.out]; rfl, hB2⟩
  · have hnb : (V.n == 1) = false := beq_eq_false_iff_ne.2 hn
    rw [if_pos rfl, if_neg hn] at hform
    have HF := Lib.hid hform
    clear hform hn
    go_enter Tryd.func40, Tryd.ntmps40
    go_wp2_with fail
    rw [← HW.out]
    go_ret
    exact ⟨by rw [HF.out]; rfl, hB2⟩
set_option maxRecDepth 100000 in
set_option maxHeartbeats 4000000 in
theorem refForm_2 (V : JV) (v : Value) (w : World) (h : ValAt w V v) (hg : goodV V = true) (hk : Hid (V.k = 2)) :
    Calls Tryd.prog 40 #[v] w fun e w' => e = .returned (.string ⟨(formV V).toArray⟩) ∧ Below w.heap.size w w' := by
  obtain ⟨vn, vi, rfl, k0, k1, n0, n1, ht, hns, his⟩ := valAt_iff.1 h
  obtain ⟨ai, icap, rfl, hI1, -⟩ := his.parts
  obtain ⟨an, ncap, rfl, -, -, -⟩ := hns.parts
  obtain ⟨w2, hw2⟩ : ∃ x, x = w.alloc (.cells #[.int .u8 V.k, .int .i64 V.n, .string V.t, .slice an V.names.length ncap, .slice ai V.items.length icap] 25) := ⟨_, rfl⟩
  have hB2 : Below w.heap.size w w2 := by rw [hw2]; exact bel_alloc (Below.refl _ _) _
  have a0 : w2.cell? ⟨w.heap.size, 0, none⟩ = some (.int .u8 V.k) := by rw [hw2, cell_al_eq _ _ _ _ _ rfl]; rfl
  have a1 : w2.cell? ⟨w.heap.size, 1, none⟩ = some (.int .i64 V.n) := by rw [hw2, cell_al_eq _ _ _ _ _ rfl]; rfl
  have a2 : w2.cell? ⟨w.heap.size, 2, none⟩ = some (.string V.t) := by rw [hw2, cell_al_eq _ _ _ _ _ rfl]; rfl
  have a3 : w2.cell? ⟨w.heap.size, 3, none⟩ = some (.slice an V.names.length ncap) := by rw [hw2, cell_al_eq _ _ _ _ _ rfl]; rfl
  have a4 : w2.cell? ⟨w.heap.size, 4, none⟩ = some (.slice ai V.items.length icap) := by rw [hw2, cell_al_eq _ _ _ _ _ rfl]; rfl
  have hV2 := Lib.hid (h.keep hB2)
  have HW := Lib.hid hw2
  have hform := formV_eq V
  have HG := Lib.hid hg
  clear hw2 h hns his hg
  have q1 : (V.k == 1) = false := by rw [hk.out]; rfl
  have q2 : (V.k == 2) = true := by rw [hk.out]; rfl
  have q3 : (V.k == 3) = false := by rw [hk.out]; rfl
  have q4 : (V.k == 4) = false := by rw [hk.out]; rfl
  have q5 : (V.k == 5) = false := by rw [hk.out]; rfl
  rw [hk.out] at hform
  have hform2 : formV V = Lib.itoa V.n := hform
  have HF := Lib.hid hform2
  clear hform hform2
  go_enter Tryd.func40, Tryd.ntmps40
  go_wp2_with fail
  rw [← HW.out]
  refine (refShow_any V.n n0 n1 _ _ rfl).mono ?_
  rintro e w3 ⟨rfl, hb3⟩
  go_wp2_with fail
  go_ret
  exact ⟨by rw [HF.out]; rfl, below_more hB2 hb3⟩
set_option maxRecDepth 100000 in
set_option maxHeartbeats 4000000 in
theorem refForm_3 (V : JV) (v : Value) (w : World) (h : ValAt w V v) (hg : goodV V = true) (hk : Hid (V.k = 3)) (hts : V.t.size ≤ 1000000000) :
    Calls Tryd.prog 40 #[v] w fun e w' => e = .returned (.string ⟨(formV V).toArray⟩) ∧ Below w.heap.size w w' := by
  obtain ⟨vn, vi, rfl, k0, k1, n0, n1, ht, hns, his⟩ := valAt_iff.1 h
  obtain ⟨ai, icap, rfl, hI1, -⟩ := his.parts
  obtain ⟨an, ncap, rfl, -, -, -⟩ := hns.parts
  obtain ⟨w2, hw2⟩ : ∃ x, x = w.alloc (.cells #[.int .u8 V.k, .int .i64 V.n, .string V.t, .slice an V.names.length ncap, .slice ai V.items.length icap] 25) := ⟨_, rfl⟩
  have hB2 : Below w.heap.size w w2 := by rw [hw2]; exact bel_alloc (Below.refl _ _) _
  have a0 : w2.cell? ⟨w.heap.size, 0, none⟩ = some (.int .u8 V.k) := by rw [hw2, cell_al_eq _ _ _ _ _ rfl]; rfl
  have a1 : w2.cell? ⟨w.heap.size, 1, none⟩ = some (.int .i64 V.n) := by rw [hw2, cell_al_eq _ _ _ _ _ rfl]; rfl
  have a2 : w2.cell? ⟨w.heap.size, 2, none⟩ = some (.string V.t) := by rw [hw2, cell_al_eq _ _ _ _ _ rfl]; rfl
  have a3 : w2.cell? ⟨w.heap.size, 3, none⟩ = some (.slice an V.names.length ncap) := by rw [hw2, cell_al_eq _ _ _ _ _ rfl]; rfl
  have a4 : w2.cell? ⟨w.heap.size, 4, none⟩ = some (.slice ai V.items.length icap) := by rw [hw2, cell_al_eq _ _ _ _ _ rfl]; rfl
  have hV2 := Lib.hid (h.keep hB2)
  have HW := Lib.hid hw2
  have hform := formV_eq V
  have HG := Lib.hid hg
  clear hw2 h hns his hg
  have q1 : (V.k == 1) = false := by rw [hk.out]; rfl
  have q2 : (V.k == 2) = false := by rw [hk.out]; rfl
  have q3 : (V.k == 3) = true := by rw [hk.out]; rfl
  have q4 : (V.k == 4) = false := by rw [hk.out]; rfl
  have q5 : (V.k == 5) = false := by rw [hk.out]; rfl
  rw [hk.out] at hform
  have hform2 : formV V = quoteL V.t.data.toList := hform
  have HF := Lib.hid hform2
  clear hform hform2
  go_enter Tryd.func40, Tryd.ntmps40
  go_wp2_with fail
  rw [← HW.out]
  refine (refTextForm_any V.t _ hts).mono ?_
  rintro e w3 ⟨rfl, hb3⟩
  go_wp2_with fail
  go_ret
  exact ⟨by rw [HF.out]; rfl, below_more hB2 hb3⟩
set_option maxRecDepth 100000 in
set_option maxHeartbeats 4000000 in
theorem refForm_loop4 (V : JV) (v : Value) (w : World) (h : ValAt w V v) (hg : goodV V = true) (hk : Hid (V.k = 4)) (hlen : (formV V).length ≤ 200000000)
    (ih : ∀ (x : JV) (a : Value) (wr : World), x ∈ V.items → ValAt wr x a → goodV x = true → (formV x).length ≤ 200000000 → Calls Tryd.prog 40 #[a] wr fun e w' => e = .returned (.string ⟨(formV x).toArray⟩) ∧ Below wr.heap.size wr w') :
    Calls Tryd.prog 40 #[v] w fun e w' => e = .returned (.string ⟨(formV V).toArray⟩) ∧ Below w.heap.size w w' := by
  obtain ⟨vn, vi, rfl, k0, k1, n0, n1, ht, hns, his⟩ := valAt_iff.1 h
  obtain ⟨ai, icap, rfl, hI1, -⟩ := his.parts
  obtain ⟨an, ncap, rfl, -, -, -⟩ := hns.parts
  obtain ⟨w2, hw2⟩ : ∃ x, x = w.alloc (.cells #[.int .u8 V.k, .int .i64 V.n, .string V.t, .slice an V.names.length ncap, .slice ai V.items.length icap] 25) := ⟨_, rfl⟩
  have hB2 : Below w.heap.size w w2 := by rw [hw2]; exact bel_alloc (Below.refl _ _) _
  have a0 : w2.cell? ⟨w.heap.size, 0, none⟩ = some (.int .u8 V.k) := by rw [hw2, cell_al_eq _ _ _ _ _ rfl]; rfl
  have a1 : w2.cell? ⟨w.heap.size, 1, none⟩ = some (.int .i64 V.n) := by rw [hw2, cell_al_eq _ _ _ _ _ rfl]; rfl
  have a2 : w2.cell? ⟨w.heap.size, 2, none⟩ = some (.string V.t) := by rw [hw2, cell_al_eq _ _ _ _ _ rfl]; rfl
  have a3 : w2.cell? ⟨w.heap.size, 3, none⟩ = some (.slice an V.names.length ncap) := by rw [hw2, cell_al_eq _ _ _ _ _ rfl]; rfl
  have a4 : w2.cell? ⟨w.heap.size, 4, none⟩ = some (.slice ai V.items.length icap) := by rw [hw2, cell_al_eq _ _ _ _ _ rfl]; rfl
  have hV2 := Lib.hid (h.keep hB2)
  have HW := Lib.hid hw2
  have hform := formV_eq V
  have HG := Lib.hid hg
  clear hw2 h hns his hg
  have q1 : (V.k == 1) = false := by rw [hk.out]; rfl
  have q2 : (V.k == 2) = false := by rw [hk.out]; rfl
  have q3 : (V.k == 3) = false := by rw [hk.out]; rfl
  have q4 : (V.k == 4) = true := by rw [hk.out]; rfl
  have q5 : (V.k == 5) = false := by rw [hk.out]; rfl
  rw [hk.out] at hform
  obtain ⟨il, HIL⟩ : ∃ n, Hid (V.items.length = n) := ⟨_, rfl⟩
  rw [HIL.out] at hI1
  obtain ⟨parts, hparts⟩ : ∃ p, p = (formVs V.items) := ⟨_, rfl⟩
  have hform2 : formV V = 91 :: (joinC parts ++ [93]) := by rw [hform, hparts]; rfl
  have hpl : parts.length = il := by
    rw [hparts]
    rw [formVs_map, List.length_map, HIL.out]
  have hsmall : (joinC parts).length ≤ 200000000 := by
    rw [hform2] at hlen
    simp at hlen
    omega
  have HPS := Lib.hid hparts
  have HPL := Lib.hid hpl
  have HFM := Lib.hid hform2
  have HIH := Lib.hid ih
  clear hparts hpl hform2 hform ih
  go_enter Tryd.func40, Tryd.ntmps40
  go_wp2_with fail
  rw [← HW.out]
  rw [HIL.out] at a4
  go_loopw [3, 4] (fun s i wr => ∃ (j : Nat) (u : ByteArray), j ≤ il ∧ i = .int .i64 j ∧ s = .string u ∧ u.size ≤ 200000000 ∧ Hid (u.data.toList = joinC (parts.take j)) ∧ Below w2.heap.size w2 wr) (fun _ i _ => il - (intOf i).toNat)
  case atStart => exact ⟨0, ⟨#[]⟩, by omega, rfl, rfl, by decide, by simp [Hid, joinC], Below.refl _ _⟩
  case round =>
    obtain ⟨j, u, hj, rfl, rfl, hu, HU, hbr⟩ := hrel
    have c0 := cell_keep hbr a0
    have c3 := cell_keep hbr a3
    have c4 := cell_keep hbr a4
    have hV6 := Lib.hid (hV2.out.keep hbr)
    by_cases hjl : j < il
    · obtain ⟨x, hx⟩ : ∃ x, V.items[j]? = some x := ⟨_, List.getElem?_eq_getElem (by rw [HIL.out]; exact hjl)⟩
      have hgx : goodV x = true := goodVs_mem (good_items HG.out (by rw [hk.out]; simp)) x (List.mem_of_getElem? hx)
      obtain ⟨_, _, e1, -, -, -, -, -, hnn, hii⟩ := valAt_iff.1 hV6.out
      simp only [Value.agg.injEq, Array.mk.injEq, List.cons.injEq, true_and, and_true] at e1
      obtain ⟨rfl, rfl⟩ := e1
      obtain ⟨_, _, e', -, hpart⟩ := hii.parts
      simp only [Value.slice.injEq] at e'
      obtain ⟨rfl, -, rfl⟩ := e'
      obtain ⟨xb, xo, xn, xi, rfl, x0, x1, x2, x3, x4, q⟩ := hpart j x hx
      have hvx := valAt_iff.2 ⟨xn, xi, rfl, q⟩
      obtain ⟨-, -, -, -, -, q1, q2⟩ := q
      obtain ⟨xi1, xi2, rfl, -, -⟩ := q2.parts
      obtain ⟨xn1, xn2, rfl, -, -, -⟩ := q1.parts
      obtain ⟨sx, hsx⟩ : ∃ s, Hid (s = (⟨(formV x).toArray⟩ : ByteArray)) := ⟨_, rfl⟩
      have hpart2 : parts[j]? = some (formV x) := by rw [HPS.out, formVs_map, List.getElem?_map, hx]; rfl
      have hfx : (formV x).length ≤ 200000000 := by
        have := joinC_part hpart2
        omega
      have smx : sx.size ≤ 200000000 := by rw [hsx.out, bytes_size]; exact hfx
      have hcall := fun (W' : World) (hb' : Below wr.heap.size wr W') => HIH.out x _ W' (List.mem_of_getElem? hx) (hvx.keep hb') hgx hfx
      rw [← hsx.out] at hcall
      have HC := Lib.hid hcall
      have hstep := joinC_step hpart2
      have hlen2 : (joinC (parts.take (j + 1))).length ≤ 200000000 := Nat.le_trans (joinC_take _ _) hsmall
      have HSTEP := Lib.hid hstep
      have HLEN := Lib.hid hlen2
      clear hstep hpart2 hpart hx q1 q2 hii hnn hlen2 hcall hvx
      have hj0' : (0 : Int) ≤ (j : Int) := by omega
      have hj1' : (j : Int) < (il : Int) := by omega
      by_cases hj0 : j = 0
      · have hz : ¬ 0 < j := by omega
        have hzi : ¬ (0 : Int) < (j : Int) := by omega
        have HJ0 := Lib.hid hj0
        clear hj0
        have hdat : (u ++ sx).data.toList = joinC (parts.take (j + 1)) := by
          rw [HSTEP.out, if_pos HJ0.out]
          simp only [Joins.data_append]
          rw [HU.out, hsx.out]
          simp [HJ0.out, joinC]
        have hszF : (u ++ sx).size ≤ 200000000 := by
          rw [← dlen, hdat]; exact HLEN.out
        have hszF2 : (u ++ sx).size = u.size + sx.size := by rw [← dlen, Joins.data_append, List.length_append, dlen, dlen]
        have HDAT := Lib.hid hdat
        clear hdat
        go_wp2_with fail
        refine (HC.out _ (Below.refl _ _)).mono ?_
        rintro e w8 ⟨rfl, hb8⟩
        go_wp2_with fail
        refine ⟨⟨j + 1, _, by omega, by go_num, rfl, hszF, HDAT.out, below_more hbr hb8⟩, by simp [intOf]; omega⟩
      · have hz : 0 < j := by omega
        have hzi : (0 : Int) < (j : Int) := by omega
        have hsz44 : (u ++ (⟨#[44]⟩ : ByteArray)).size = u.size + 1 := by rw [← dlen, Joins.data_append, List.length_append, dlen]; rfl
        have HJ0 := Lib.hid hj0
        clear hj0
        have hdat : ((u ++ (⟨#[44]⟩ : ByteArray)) ++ sx).data.toList = joinC (parts.take (j + 1)) := by
          rw [HSTEP.out, if_neg HJ0.out]
          simp only [Joins.data_append, List.append_assoc]
          rw [HU.out, hsx.out]
          simp
        have hszF : ((u ++ (⟨#[44]⟩ : ByteArray)) ++ sx).size ≤ 200000000 := by
          rw [← dlen, hdat]; exact HLEN.out
        have hszF2 : ((u ++ (⟨#[44]⟩ : ByteArray)) ++ sx).size = (u ++ (⟨#[44]⟩ : ByteArray)).size + sx.size := by rw [← dlen, Joins.data_append, List.length_append, dlen, dlen]
        have HDAT := Lib.hid hdat
        clear hdat
        go_wp2_with fail
        refine (HC.out _ (Below.refl _ _)).mono ?_
        rintro e w8 ⟨rfl, hb8⟩
        go_wp2_with fail
        refine ⟨⟨j + 1, _, by omega, by go_num, rfl, hszF, HDAT.out, below_more hbr hb8⟩, by simp [intOf]; omega⟩
    · have hall : u.data.toList = joinC parts := by
        have := HU.out
        rwa [List.take_of_length_le (by rw [HPL.out]; omega)] at this
      have hend : ((⟨#[91]⟩ : ByteArray) ++ u ++ (⟨#[93]⟩ : ByteArray)) = ⟨(formV V).toArray⟩ := by
        apply bytes_ext
        rw [Joins.data_append, Joins.data_append, hall, HFM.out]
        rfl
      have hsz1 : ((⟨#[91]⟩ : ByteArray) ++ u).size = u.size + 1 := by rw [← dlen, Joins.data_append, List.length_append, dlen]; show 1 + u.size = _; omega
      have hsz2 : ((⟨#[91]⟩ : ByteArray) ++ u ++ (⟨#[93]⟩ : ByteArray)).size = u.size + 2 := by rw [← dlen, Joins.data_append, Joins.data_append, List.length_append, List.length_append, dlen]; show 1 + u.size + 1 = _; omega
      have HEND := Lib.hid hend
      clear hall hend
      go_wp2_with fail
      go_ret
      exact ⟨by rw [← HEND.out]; rfl, below_more hB2 hbr⟩
set_option maxRecDepth 100000 in
set_option maxHeartbeats 4000000 in
theorem refForm_loop5 (V : JV) (v : Value) (w : World) (h : ValAt w V v) (hg : goodV V = true) (hk : Hid (V.k = 5)) (hlen : (formV V).length ≤ 200000000)
    (ih : ∀ (x : JV) (a : Value) (wr : World), x ∈ V.items → ValAt wr x a → goodV x = true → (formV x).length ≤ 200000000 → Calls Tryd.prog 40 #[a] wr fun e w' => e = .returned (.string ⟨(formV x).toArray⟩) ∧ Below wr.heap.size wr w') :
    Calls Tryd.prog 40 #[v] w fun e w' => e = .returned (.string ⟨(formV V).toArray⟩) ∧ Below w.heap.size w w' := by
  obtain ⟨vn, vi, rfl, k0, k1, n0, n1, ht, hns, his⟩ := valAt_iff.1 h
  obtain ⟨ai, icap, rfl, hI1, -⟩ := his.parts
  obtain ⟨an, ncap, rfl, -, -, -⟩ := hns.parts
  obtain ⟨w2, hw2⟩ : ∃ x, x = w.alloc (.cells #[.int .u8 V.k, .int .i64 V.n, .string V.t, .slice an V.names.length ncap, .slice ai V.items.length icap] 25) := ⟨_, rfl⟩
  have hB2 : Below w.heap.size w w2 := by rw [hw2]; exact bel_alloc (Below.refl _ _) _
  have a0 : w2.cell? ⟨w.heap.size, 0, none⟩ = some (.int .u8 V.k) := by rw [hw2, cell_al_eq _ _ _ _ _ rfl]; rfl
  have a1 : w2.cell? ⟨w.heap.size, 1, none⟩ = some (.int .i64 V.n) := by rw [hw2, cell_al_eq _ _ _ _ _ rfl]; rfl
  have a2 : w2.cell? ⟨w.heap.size, 2, none⟩ = some (.string V.t) := by rw [hw2, cell_al_eq _ _ _ _ _ rfl]; rfl
  have a3 : w2.cell? ⟨w.heap.size, 3, none⟩ = some (.slice an V.names.length ncap) := by rw [hw2, cell_al_eq _ _ _ _ _ rfl]; rfl
  have a4 : w2.cell? ⟨w.heap.size, 4, none⟩ = some (.slice ai V.items.length icap) := by rw [hw2, cell_al_eq _ _ _ _ _ rfl]; rfl
  have hV2 := Lib.hid (h.keep hB2)
  have HW := Lib.hid hw2
  have hform := formV_eq V
  have HG := Lib.hid hg
  clear hw2 h hns his hg
  have q1 : (V.k == 1) = false := by rw [hk.out]; rfl
  have q2 : (V.k == 2) = false := by rw [hk.out]; rfl
  have q3 : (V.k == 3) = false := by rw [hk.out]; rfl
  have q4 : (V.k == 4) = false := by rw [hk.out]; rfl
  have q5 : (V.k == 5) = true := by rw [hk.out]; rfl
  rw [hk.out] at hform
  obtain ⟨il, HIL⟩ : ∃ n, Hid (V.items.length = n) := ⟨_, rfl⟩
  rw [HIL.out] at hI1
  obtain ⟨parts, hparts⟩ : ∃ p, p = ((V.names.zip (formVs V.items)).map fun p => quoteL p.1.data.toList ++ 58 :: p.2) := ⟨_, rfl⟩
  have hform2 : formV V = 123 :: (joinC parts ++ [125]) := by rw [hform, hparts]; rfl
  have hpl : parts.length = il := by
    rw [hparts]
    rw [List.length_map, List.length_zip, formVs_map, List.length_map, (proper_obj (by have := HG.out; rw [goodV_eq, Bool.and_eq_true] at this; exact this.1) hk.out).1, HIL.out]
    omega
  have hsmall : (joinC parts).length ≤ 200000000 := by
    rw [hform2] at hlen
    simp at hlen
    omega
  have HPS := Lib.hid hparts
  have HPL := Lib.hid hpl
  have HFM := Lib.hid hform2
  have HIH := Lib.hid ih
  clear hparts hpl hform2 hform ih
  go_enter Tryd.func40, Tryd.ntmps40
  go_wp2_with fail
  rw [← HW.out]
  rw [HIL.out] at a4
  go_loopw [3, 4] (fun s i wr => ∃ (j : Nat) (u : ByteArray), j ≤ il ∧ i = .int .i64 j ∧ s = .string u ∧ u.size ≤ 200000000 ∧ Hid (u.data.toList = joinC (parts.take j)) ∧ Below w2.heap.size w2 wr) (fun _ i _ => il - (intOf i).toNat)
  case atStart => exact ⟨0, ⟨#[]⟩, by omega, rfl, rfl, by decide, by simp [Hid, joinC], Below.refl _ _⟩
  case round =>
    obtain ⟨j, u, hj, rfl, rfl, hu, HU, hbr⟩ := hrel
    have c0 := cell_keep hbr a0
    have c3 := cell_keep hbr a3
    have c4 := cell_keep hbr a4
    have hV6 := Lib.hid (hV2.out.keep hbr)
    by_cases hjl : j < il
    · obtain ⟨x, hx⟩ : ∃ x, V.items[j]? = some x := ⟨_, List.getElem?_eq_getElem (by rw [HIL.out]; exact hjl)⟩
      have hgx : goodV x = true := goodVs_mem (good_items HG.out (by rw [hk.out]; simp)) x (List.mem_of_getElem? hx)
      obtain ⟨_, _, e1, -, -, -, -, -, hnn, hii⟩ := valAt_iff.1 hV6.out
      simp only [Value.agg.injEq, Array.mk.injEq, List.cons.injEq, true_and, and_true] at e1
      obtain ⟨rfl, rfl⟩ := e1
      obtain ⟨_, _, e', -, hpart⟩ := hii.parts
      simp only [Value.slice.injEq] at e'
      obtain ⟨rfl, -, rfl⟩ := e'
      obtain ⟨xb, xo, xn, xi, rfl, x0, x1, x2, x3, x4, q⟩ := hpart j x hx
      have hvx := valAt_iff.2 ⟨xn, xi, rfl, q⟩
      obtain ⟨-, -, -, -, -, q1, q2⟩ := q
      obtain ⟨xi1, xi2, rfl, -, -⟩ := q2.parts
      obtain ⟨xn1, xn2, rfl, -, -, -⟩ := q1.parts
      obtain ⟨sx, hsx⟩ : ∃ s, Hid (s = (⟨(formV x).toArray⟩ : ByteArray)) := ⟨_, rfl⟩
      obtain ⟨s, hs⟩ : ∃ s, V.names[j]? = some s := ⟨_, List.getElem?_eq_getElem (by
        have := HPL.out
        rw [HPS.out, List.length_map, List.length_zip] at this
        omega)⟩
      obtain ⟨_, _, e'', -, hnm, hncell⟩ := hnn.parts
      simp only [Value.slice.injEq] at e''
      obtain ⟨rfl, -, rfl⟩ := e''
      have hnl : j < V.names.length := (List.getElem?_eq_some_iff.1 hs).1
      obtain ⟨nb, no_, rfl, hnc⟩ := hncell j s hs
      have hwr : writ s = true := List.all_eq_true.1 (proper_obj (by have := HG.out; rw [goodV_eq, Bool.and_eq_true] at this; exact this.1) hk.out).2.2 s (List.mem_of_getElem? hs)
      have hssz : s.size ≤ 4096 := by simp [writ] at hwr; exact hwr.1
      obtain ⟨sn, hsn⟩ : ∃ z, Hid (z = (⟨(quoteL s.data.toList).toArray⟩ : ByteArray)) := ⟨_, rfl⟩
      have smn : sn.size ≤ 8194 := by
        rw [hsn.out, bytes_size]
        exact quote_len hwr
      have hpart2 : parts[j]? = some (quoteL s.data.toList ++ 58 :: formV x) := by rw [HPS.out]; exact zip_part hs hx
      have hnl2 : (j : Int) < (V.names.length : Int) := by omega
      have hcallT := fun W' => refTextForm_any s W' (by omega)
      rw [← hsn.out] at hcallT
      have HCT := Lib.hid hcallT
      clear hcallT
      have hfx : (formV x).length ≤ 200000000 := by
        have := joinC_part hpart2
        simp at this; omega
      have smx : sx.size ≤ 200000000 := by rw [hsx.out, bytes_size]; exact hfx
      have hcall := fun (W' : World) (hb' : Below wr.heap.size wr W') => HIH.out x _ W' (List.mem_of_getElem? hx) (hvx.keep hb') hgx hfx
      rw [← hsx.out] at hcall
      have HC := Lib.hid hcall
      have hstep := joinC_step hpart2
      have hlen2 : (joinC (parts.take (j + 1))).length ≤ 200000000 := Nat.le_trans (joinC_take _ _) hsmall
      have HSTEP := Lib.hid hstep
      have HLEN := Lib.hid hlen2
      clear hstep hpart2 hpart hx q1 q2 hii hnn hlen2 hcall hvx hncell hs hnm
      have hj0' : (0 : Int) ≤ (j : Int) := by omega
      have hj1' : (j : Int) < (il : Int) := by omega
      by_cases hj0 : j = 0
      · have hz : ¬ 0 < j := by omega
        have hzi : ¬ (0 : Int) < (j : Int) := by omega
        have HJ0 := Lib.hid hj0
        clear hj0
        have hszN : (u ++ sn).size = u.size + sn.size := by rw [← dlen, Joins.data_append, List.length_append, dlen, dlen]
        have hszC : (u ++ sn ++ (⟨#[58]⟩ : ByteArray)).size = u.size + sn.size + 1 := by rw [← dlen, Joins.data_append, Joins.data_append, List.length_append, List.length_append, dlen, dlen]; rfl
        go_wp2_with fail
        refine (HCT.out _).mono ?_
        rintro e w7 ⟨rfl, hb7⟩
        have c0 := cell_keep hb7 c0
        have c3 := cell_keep hb7 c3
        have c4 := cell_keep hb7 c4
        have x0 := cell_keep hb7 x0
        have x1 := cell_keep hb7 x1
        have x2 := cell_keep hb7 x2
        have x3 := cell_keep hb7 x3
        have x4 := cell_keep hb7 x4
        have hdat : ((u ++ sn ++ (⟨#[58]⟩ : ByteArray)) ++ sx).data.toList = joinC (parts.take (j + 1)) := by
          rw [HSTEP.out, if_pos HJ0.out]
          simp only [Joins.data_append, List.append_assoc]
          rw [HU.out, hsx.out, hsn.out]
          simp [HJ0.out, joinC]
        have hszF : ((u ++ sn ++ (⟨#[58]⟩ : ByteArray)) ++ sx).size ≤ 200000000 := by
          rw [← dlen, hdat]; exact HLEN.out
        have hszF2 : ((u ++ sn ++ (⟨#[58]⟩ : ByteArray)) ++ sx).size = (u ++ sn ++ (⟨#[58]⟩ : ByteArray)).size + sx.size := by rw [← dlen, Joins.data_append, List.length_append, dlen, dlen]
        have HDAT := Lib.hid hdat
        clear hdat
        go_wp2_with fail
        refine (HC.out _ hb7).mono ?_
        rintro e w8 ⟨rfl, hb8⟩
        go_wp2_with fail
        refine ⟨⟨j + 1, _, by omega, by go_num, rfl, hszF, HDAT.out, below_more (below_more hbr hb7) hb8⟩, by simp [intOf]; omega⟩
      · have hz : 0 < j := by omega
        have hzi : (0 : Int) < (j : Int) := by omega
        have hsz44 : (u ++ (⟨#[44]⟩ : ByteArray)).size = u.size + 1 := by rw [← dlen, Joins.data_append, List.length_append, dlen]; rfl
        have HJ0 := Lib.hid hj0
        clear hj0
        have hszN : ((u ++ (⟨#[44]⟩ : ByteArray)) ++ sn).size = (u ++ (⟨#[44]⟩ : ByteArray)).size + sn.size := by rw [← dlen, Joins.data_append, List.length_append, dlen, dlen]
        have hszC : ((u ++ (⟨#[44]⟩ : ByteArray)) ++ sn ++ (⟨#[58]⟩ : ByteArray)).size = (u ++ (⟨#[44]⟩ : ByteArray)).size + sn.size + 1 := by rw [← dlen, Joins.data_append, Joins.data_append, List.length_append, List.length_append, dlen, dlen]; rfl
        go_wp2_with fail
        refine (HCT.out _).mono ?_
        rintro e w7 ⟨rfl, hb7⟩
        have c0 := cell_keep hb7 c0
        have c3 := cell_keep hb7 c3
        have c4 := cell_keep hb7 c4
        have x0 := cell_keep hb7 x0
        have x1 := cell_keep hb7 x1
        have x2 := cell_keep hb7 x2
        have x3 := cell_keep hb7 x3
        have x4 := cell_keep hb7 x4
        have hdat : (((u ++ (⟨#[44]⟩ : ByteArray)) ++ sn ++ (⟨#[58]⟩ : ByteArray)) ++ sx).data.toList = joinC (parts.take (j + 1)) := by
          rw [HSTEP.out, if_neg HJ0.out]
          simp only [Joins.data_append, List.append_assoc]
          rw [HU.out, hsx.out, hsn.out]
          simp
        have hszF : (((u ++ (⟨#[44]⟩ : ByteArray)) ++ sn ++ (⟨#[58]⟩ : ByteArray)) ++ sx).size ≤ 200000000 := by
          rw [← dlen, hdat]; exact HLEN.out
        have hszF2 : (((u ++ (⟨#[44]⟩ : ByteArray)) ++ sn ++ (⟨#[58]⟩ : ByteArray)) ++ sx).size = ((u ++ (⟨#[44]⟩ : ByteArray)) ++ sn ++ (⟨#[58]⟩ : ByteArray)).size + sx.size := by rw [← dlen, Joins.data_append, List.length_append, dlen, dlen]
        have HDAT := Lib.hid hdat
        clear hdat
        go_wp2_with fail
        refine (HC.out _ hb7).mono ?_
        rintro e w8 ⟨rfl, hb8⟩
        go_wp2_with fail
        refine ⟨⟨j + 1, _, by omega, by go_num, rfl, hszF, HDAT.out, below_more (below_more hbr hb7) hb8⟩, by simp [intOf]; omega⟩
    · have hall : u.data.toList = joinC parts := by
        have := HU.out
        rwa [List.take_of_length_le (by rw [HPL.out]; omega)] at this
      have hend : ((⟨#[123]⟩ : ByteArray) ++ u ++ (⟨#[125]⟩ : ByteArray)) = ⟨(formV V).toArray⟩ := by
        apply bytes_ext
        rw [Joins.data_append, Joins.data_append, hall, HFM.out]
        rfl
      have hsz1 : ((⟨#[123]⟩ : ByteArray) ++ u).size = u.size + 1 := by rw [← dlen, Joins.data_append, List.length_append, dlen]; show 1 + u.size = _; omega
      have hsz2 : ((⟨#[123]⟩ : ByteArray) ++ u ++ (⟨#[125]⟩ : ByteArray)).size = u.size + 2 := by rw [← dlen, Joins.data_append, Joins.data_append, List.length_append, List.length_append, dlen]; show 1 + u.size + 1 = _; omega
      have HEND := Lib.hid hend
      clear hall hend
      go_wp2_with fail
      go_ret
      exact ⟨by rw [← HEND.out]; rfl, below_more hB2 hbr⟩
theorem refForm_fuel (N : Nat) : ∀ (V : JV) (v : Value) (w : World), SizeOf.sizeOf V < N → ValAt w V v → goodV V = true → (formV V).length ≤ 200000000 →
    Calls Tryd.prog 40 #[v] w fun e w' => e = .returned (.string ⟨(formV V).toArray⟩) ∧ Below w.heap.size w w' := by
  induction N with
  | zero => intro V v w h; omega
  | succ N ih =>
    intro V v w hN hV hg hl
    have hsub : ∀ (x : JV) (a : Value) (wr : World), x ∈ V.items → ValAt wr x a → goodV x = true → (formV x).length ≤ 200000000 → Calls Tryd.prog 40 #[a] wr fun e w' => e = .returned (.string ⟨(formV x).toArray⟩) ∧ Below wr.heap.size wr w' := by
      intro x a wr hx ha hgx hlx
      have h1 := JV.size_item hx
      exact ih x a wr (by omega) ha hgx hlx
    have hp : properB V = true := by rw [goodV_eq, Bool.and_eq_true] at hg; exact hg.1
    rcases proper_parts hp with ⟨hk, _⟩ | ⟨hk, _⟩ | ⟨hk, _⟩ | ⟨hk, _⟩ | ⟨hk, _⟩
    · exact refForm_1 V v w hV hg hk
    · exact refForm_2 V v w hV hg hk
    · have hw := proper_text hp hk
      exact refForm_3 V v w hV hg hk (by simp [writ] at hw; omega)
    · exact refForm_loop4 V v w hV hg hk hl hsub
    · exact refForm_loop5 V v w hV hg hk hl hsub
set_option maxRecDepth 100000 in
set_option maxHeartbeats 2000000 in
theorem refEncode_yes (V : JV) (v : Value) (w : World) (h : ValAt w V v) (hwt : wt V ≤ 1000000000) (hm : Hid (mayB V = true)) (s : ByteArray) (hs : Hid (s = (⟨(formV V).toArray⟩ : ByteArray))) :
    Calls Tryd.prog 18 #[v] w fun e w' => e = .returned (.tuple #[.string s, .int .i64 0]) ∧ Below w.heap.size w w' := by
  obtain ⟨vn, vi, rfl, k0, k1, n0, n1, ht, hns, his⟩ := valAt_iff.1 h
  obtain ⟨ai, icap, rfl, hI1, -⟩ := his.parts
  obtain ⟨an, ncap, rfl, -, -, -⟩ := hns.parts
  obtain ⟨w2, hw2⟩ : ∃ x, x = w.alloc (.cells #[.int .u8 V.k, .int .i64 V.n, .string V.t, .slice an V.names.length ncap, .slice ai V.items.length icap] 25) := ⟨_, rfl⟩
  have hB2 : Below w.heap.size w w2 := by rw [hw2]; exact bel_alloc (Below.refl _ _) _
  have a0 : w2.cell? ⟨w.heap.size, 0, none⟩ = some (.int .u8 V.k) := by rw [hw2, cell_al_eq _ _ _ _ _ rfl]; rfl
  have a1 : w2.cell? ⟨w.heap.size, 1, none⟩ = some (.int .i64 V.n) := by rw [hw2, cell_al_eq _ _ _ _ _ rfl]; rfl
  have a2 : w2.cell? ⟨w.heap.size, 2, none⟩ = some (.string V.t) := by rw [hw2, cell_al_eq _ _ _ _ _ rfl]; rfl
  have a3 : w2.cell? ⟨w.heap.size, 3, none⟩ = some (.slice an V.names.length ncap) := by rw [hw2, cell_al_eq _ _ _ _ _ rfl]; rfl
  have a4 : w2.cell? ⟨w.heap.size, 4, none⟩ = some (.slice ai V.items.length icap) := by rw [hw2, cell_al_eq _ _ _ _ _ rfl]; rfl
  have hV2 := Lib.hid (h.keep hB2)
  have HW := Lib.hid hw2
  clear hw2 h hns his
  have hcall := fun (W' : World) (hb' : Below w2.heap.size w2 W') => refForm_fuel _ V _ W' (Nat.lt_succ_self _) (hV2.out.keep hb') ((mayB_iff V).1 hm.out).1 (form_small (inV_of hV2.out) hm.out)
  rw [← hs.out] at hcall
  have HC := Lib.hid hcall
  clear hcall
  go_enter Tryd.func18, Tryd.ntmps18
  go_wp2_with fail
  rw [← HW.out]
  refine (refMay_any V _ _ hV2.out hwt true hm).mono ?_
  rintro e w3 ⟨rfl, hb3⟩
  have a0 := cell_keep hb3 a0
  have a1 := cell_keep hb3 a1
  have a2 := cell_keep hb3 a2
  have a3 := cell_keep hb3 a3
  have a4 := cell_keep hb3 a4
  go_wp2_with fail
  refine (HC.out _ hb3).mono ?_
  rintro e w4 ⟨rfl, hb4⟩
  go_wp2_with fail
  go_ret2
  exact ⟨rfl, below_more (below_more hB2 hb3) hb4⟩
set_option maxRecDepth 100000 in
set_option maxHeartbeats 2000000 in
theorem refEncode_no (V : JV) (v : Value) (w : World) (h : ValAt w V v) (hwt : wt V ≤ 1000000000) (hm : Hid (mayB V = false)) :
    Calls Tryd.prog 18 #[v] w fun e w' => e = .returned (.tuple #[.string ⟨#[]⟩, .int .i64 3]) ∧ Below w.heap.size w w' := by
  obtain ⟨vn, vi, rfl, k0, k1, n0, n1, ht, hns, his⟩ := valAt_iff.1 h
  obtain ⟨ai, icap, rfl, hI1, -⟩ := his.parts
  obtain ⟨an, ncap, rfl, -, -, -⟩ := hns.parts
  obtain ⟨w2, hw2⟩ : ∃ x, x = w.alloc (.cells #[.int .u8 V.k, .int .i64 V.n, .string V.t, .slice an V.names.length ncap, .slice ai V.items.length icap] 25) := ⟨_, rfl⟩
  have hB2 : Below w.heap.size w w2 := by rw [hw2]; exact bel_alloc (Below.refl _ _) _
  have a0 : w2.cell? ⟨w.heap.size, 0, none⟩ = some (.int .u8 V.k) := by rw [hw2, cell_al_eq _ _ _ _ _ rfl]; rfl
  have a1 : w2.cell? ⟨w.heap.size, 1, none⟩ = some (.int .i64 V.n) := by rw [hw2, cell_al_eq _ _ _ _ _ rfl]; rfl
  have a2 : w2.cell? ⟨w.heap.size, 2, none⟩ = some (.string V.t) := by rw [hw2, cell_al_eq _ _ _ _ _ rfl]; rfl
  have a3 : w2.cell? ⟨w.heap.size, 3, none⟩ = some (.slice an V.names.length ncap) := by rw [hw2, cell_al_eq _ _ _ _ _ rfl]; rfl
  have a4 : w2.cell? ⟨w.heap.size, 4, none⟩ = some (.slice ai V.items.length icap) := by rw [hw2, cell_al_eq _ _ _ _ _ rfl]; rfl
  have hV2 := Lib.hid (h.keep hB2)
  have HW := Lib.hid hw2
  clear hw2 h hns his
  go_enter Tryd.func18, Tryd.ntmps18
  go_wp2_with fail
  rw [← HW.out]
  refine (refMay_any V _ _ hV2.out hwt false hm).mono ?_
  rintro e w3 ⟨rfl, hb3⟩
  go_wp2_with fail
  go_ret2
  exact ⟨rfl, below_more hB2 hb3⟩
end Go.Proofs.YtjekdhahbkofbaaDoor
