/-
  legateref08: part of lists and objects; May.
-/
import Derived.Test.YtfdecbfcddkoiaaGreatDoorValRef2
namespace Go.Proofs.YtfdecbfcddkoiaaGreatDoor
open Go.RowKit

theorem goodVs_app (a b : List JV) : goodVs (a ++ b) = (goodVs a && goodVs b) := by
  induction a with
  | nil => simp [goodVs]
  | cons x r ih => simp only [List.cons_append, goodVs, ih, Bool.and_assoc]
theorem goodVs_step {l : List JV} {j : Nat} {x : JV} (h : l[j]? = some x) (ha : goodVs (l.take j) = true) (hx : goodV x = true) : goodVs (l.take (j + 1)) = true := by
  rw [List.take_add_one, h, goodVs_app, ha]; simp [goodVs, hx]
theorem goodVs_no {l : List JV} {j : Nat} {x : JV} (h : l[j]? = some x) (hx : goodV x = false) : goodVs l = false := by
  cases hh : goodVs l with
  | false => rfl
  | true => have := goodVs_mem hh x (List.mem_of_getElem? h); rw [hx] at this; cases this
set_option maxRecDepth 100000 in
set_option maxHeartbeats 4000000 in
theorem refPart_4go (n : Int) (t : ByteArray) (names : List ByteArray) (items : List JV) (vn vi : Value) (w : World) (hns : StrsAt w vn names) (his : ItemsAt w vi items) (hn : (n != 0) = false) (ht : t.toList = []) (hl : names.length = 0) (hnm : ∀ s ∈ names, s.size ≤ 281474976710656)
    (ih : ∀ (x : JV) (a : Value) (wr : World), x ∈ items → ValAt wr x a → Calls Tryz.prog 17 #[a] wr fun e w' => e = .returned (.bool (goodV x)) ∧ Below wr.heap.size wr w')
    (r : Bool) (hr : Hid ((ascB names && names.all writ && goodVs items) = r)) :
    Calls Tryz.prog 17 #[.agg #[.int .u8 4, .int .i64 n, .string t, vn, vi]] w fun e w' => e = .returned (.bool r) ∧ Below w.heap.size w w' := by
  have HIs := Lib.hid his
  have HNs := Lib.hid hns
  obtain ⟨ai, icap, rfl, hI1, -⟩ := his.parts
  obtain ⟨an, ncap, rfl, hN1, -, hnc⟩ := hns.parts
  obtain ⟨il, e2⟩ : ∃ x, items.length = x := ⟨_, rfl⟩
  obtain ⟨nl, e1⟩ : ∃ x, names.length = x := ⟨_, rfl⟩
  rw [e2] at hI1 HIs ⊢
  rw [e1] at hN1 HNs ⊢
  rw [e1] at hl
  subst hl
  have HE2 := Lib.hid e2
  have HE1 := Lib.hid e1
  have HNC := Lib.hid hnc
  have HNM := Lib.hid hnm
  have HIH := Lib.hid ih
  clear e1 e2 his hns hnc hnm ih
  have hte : t.toList.isEmpty = true := by rw [ht]; rfl
  obtain ⟨w2, hw2⟩ : ∃ x, x = w.alloc (.cells #[.int .u8 4, .int .i64 n, .string t, .slice an 0 ncap, .slice ai il icap] 26) := ⟨_, rfl⟩
  have hB2 : Below w.heap.size w w2 := by rw [hw2]; exact bel_alloc (Below.refl _ _) _
  have a3 : w2.cell? ⟨w.heap.size, 3, none⟩ = some (.slice an 0 ncap) := by rw [hw2, cell_al_eq _ _ _ _ _ rfl]; rfl
  have a4 : w2.cell? ⟨w.heap.size, 4, none⟩ = some (.slice ai il icap) := by rw [hw2, cell_al_eq _ _ _ _ _ rfl]; rfl
  have HW := Lib.hid hw2
  have hcall := refRise_any names _ w2 (HNs.out.keep hB2)
  obtain ⟨A, hA⟩ : ∃ A, ascB names = A := ⟨_, rfl⟩
  rw [hA] at hcall
  have HA := Lib.hid hA
  have HC := Lib.hid hcall
  clear hw2 hA hcall
  go_enter Tryz.func17, Tryz.ntmps17
  go_wp2_with fail
  rw [← HW.out]
  refine HC.out.mono ?_
  rintro e w3 ⟨rfl, hb3⟩
  have a3 := cell_keep hb3 a3
  have a4 := cell_keep hb3 a4
  have hB3 := below_more hB2 hb3
  cases A with
  | false =>
    obtain rfl : r = false := by rw [← hr.out, HA.out]; rfl
    go_wp2_with fail
    go_ret
    exact ⟨rfl, hB3⟩
  | true =>
    go_wp2_with fail
    go_loopw [3] (fun i wr => ∃ j : Nat, j ≤ 0 ∧ i = .int .i64 j ∧ Hid ((names.take j).all writ = true) ∧ Below w3.heap.size w3 wr) (fun i _ => 0 - (intOf i).toNat)
    case atStart => exact ⟨0, by omega, rfl, by simp [Hid], Below.refl _ _⟩
    case round =>
      obtain ⟨j, hj, rfl, HT, hbr⟩ := hrel
      have c3 := cell_keep hbr a3
      have c4 := cell_keep hbr a4
      by_cases hjl : j < 0
      · exact absurd hjl (by omega)
      · have hall : names.all writ = true := by
          have := HT.out
          rwa [List.take_of_length_le (by rw [HE1.out]; omega)] at this
        have HALL := Lib.hid hall
        clear hall HT HNC
        go_wp2_with fail
        go_loopw [4] (fun i wr => ∃ j : Nat, j ≤ il ∧ i = .int .i64 j ∧ Hid (goodVs (items.take j) = true) ∧ Below w3.heap.size w3 wr) (fun i _ => il - (intOf i).toNat)
        case atStart => exact ⟨0, by omega, rfl, by simp [Hid, goodVs], hbr⟩
        case round =>
          obtain ⟨j, hj, rfl, HT, hbr⟩ := hrel
          have c4 := cell_keep hbr a4
          by_cases hjl : j < il
          · obtain ⟨x, hx⟩ : ∃ x, items[j]? = some x := ⟨_, List.getElem?_eq_getElem (by rw [HE2.out]; exact hjl)⟩
            obtain ⟨_, _, e', -, hpart⟩ := (HIs.out.keep (below_more hB3 hbr)).parts
            simp only [Value.slice.injEq] at e'
            obtain ⟨rfl, -, rfl⟩ := e'
            obtain ⟨xb, xo, xn, xi, rfl, x0, x1, x2, x3, x4, q⟩ := hpart j x hx
            have hvx := valAt_iff.2 ⟨xn, xi, rfl, q⟩
            obtain ⟨-, -, -, -, -, q1, q2⟩ := q
            obtain ⟨xi1, xi2, rfl, -, -⟩ := q2.parts
            obtain ⟨xn1, xn2, rfl, -, -, -⟩ := q1.parts
            obtain ⟨u, hu⟩ : ∃ u, goodV x = u := ⟨_, rfl⟩
            have hct := HIH.out x _ wr (List.mem_of_getElem? hx) hvx
            rw [hu] at hct
            have HU := Lib.hid hu
            have HX := Lib.hid hx
            have HCT := Lib.hid hct
            have hj0 : (0 : Int) ≤ (j : Int) := by omega
            have hj1 : (j : Int) < (il : Int) := by omega
            clear hu hx hct hpart q1 q2 hvx
            go_wp2_with fail
            refine HCT.out.mono ?_
            rintro e w4 ⟨rfl, hb4⟩
            cases u with
            | true =>
              go_wp2_with fail
              refine ⟨⟨j + 1, by omega, by go_num, ?_, below_more hbr hb4⟩, by simp [intOf]; omega⟩
              exact goodVs_step HX.out HT.out HU.out
            | false =>
              obtain rfl : r = false := by rw [← hr.out, goodVs_no HX.out HU.out, Bool.and_false]
              go_wp2_with fail
              go_ret
              exact ⟨rfl, below_more (below_more hB3 hbr) hb4⟩
          · have hall : goodVs items = true := by
              have := HT.out
              rwa [List.take_of_length_le (by rw [HE2.out]; omega)] at this
            obtain rfl : r = true := by rw [← hr.out, HA.out, HALL.out, hall]; rfl
            clear hall
            go_wp2_with fail
            go_ret
            exact ⟨rfl, below_more hB3 hbr⟩
set_option maxRecDepth 100000 in
set_option maxHeartbeats 4000000 in
theorem refPart_5go (n : Int) (t : ByteArray) (names : List ByteArray) (items : List JV) (vn vi : Value) (w : World) (hns : StrsAt w vn names) (his : ItemsAt w vi items) (hn : (n != 0) = false) (ht : t.toList = []) (hl : names.length = items.length) (hnm : ∀ s ∈ names, s.size ≤ 281474976710656)
    (ih : ∀ (x : JV) (a : Value) (wr : World), x ∈ items → ValAt wr x a → Calls Tryz.prog 17 #[a] wr fun e w' => e = .returned (.bool (goodV x)) ∧ Below wr.heap.size wr w')
    (r : Bool) (hr : Hid ((ascB names && names.all writ && goodVs items) = r)) :
    Calls Tryz.prog 17 #[.agg #[.int .u8 5, .int .i64 n, .string t, vn, vi]] w fun e w' => e = .returned (.bool r) ∧ Below w.heap.size w w' := by
  have HIs := Lib.hid his
  have HNs := Lib.hid hns
  obtain ⟨ai, icap, rfl, hI1, -⟩ := his.parts
  obtain ⟨an, ncap, rfl, hN1, -, hnc⟩ := hns.parts
  obtain ⟨il, e2⟩ : ∃ x, items.length = x := ⟨_, rfl⟩
  obtain ⟨nl, e1⟩ : ∃ x, names.length = x := ⟨_, rfl⟩
  rw [e2] at hI1 HIs ⊢
  rw [e1] at hN1 HNs ⊢
  rw [e1] at hl
  rw [e2] at hl
  have HE2 := Lib.hid e2
  have HE1 := Lib.hid e1
  have HL := Lib.hid hl
  have HNC := Lib.hid hnc
  have HNM := Lib.hid hnm
  have HIH := Lib.hid ih
  clear e1 e2 his hns hl hnc hnm ih
  have hte : t.toList.isEmpty = true := by rw [ht]; rfl
  have hl0 : ((nl : Int) != (il : Int)) = false := by have := HL.out; simp; omega
  obtain ⟨w2, hw2⟩ : ∃ x, x = w.alloc (.cells #[.int .u8 5, .int .i64 n, .string t, .slice an nl ncap, .slice ai il icap] 26) := ⟨_, rfl⟩
  have hB2 : Below w.heap.size w w2 := by rw [hw2]; exact bel_alloc (Below.refl _ _) _
  have a3 : w2.cell? ⟨w.heap.size, 3, none⟩ = some (.slice an nl ncap) := by rw [hw2, cell_al_eq _ _ _ _ _ rfl]; rfl
  have a4 : w2.cell? ⟨w.heap.size, 4, none⟩ = some (.slice ai il icap) := by rw [hw2, cell_al_eq _ _ _ _ _ rfl]; rfl
  have HW := Lib.hid hw2
  have hcall := refRise_any names _ w2 (HNs.out.keep hB2)
  obtain ⟨A, hA⟩ : ∃ A, ascB names = A := ⟨_, rfl⟩
  rw [hA] at hcall
  have HA := Lib.hid hA
  have HC := Lib.hid hcall
  clear hw2 hA hcall
  go_enter Tryz.func17, Tryz.ntmps17
  go_wp2_with fail
  rw [← HW.out]
  refine HC.out.mono ?_
  rintro e w3 ⟨rfl, hb3⟩
  have a3 := cell_keep hb3 a3
  have a4 := cell_keep hb3 a4
  have hB3 := below_more hB2 hb3
  cases A with
  | false =>
    obtain rfl : r = false := by rw [← hr.out, HA.out]; rfl
    go_wp2_with fail
    go_ret
    exact ⟨rfl, hB3⟩
  | true =>
    go_wp2_with fail
    go_loopw [3] (fun i wr => ∃ j : Nat, j ≤ nl ∧ i = .int .i64 j ∧ Hid ((names.take j).all writ = true) ∧ Below w3.heap.size w3 wr) (fun i _ => nl - (intOf i).toNat)
    case atStart => exact ⟨0, by omega, rfl, by simp [Hid], Below.refl _ _⟩
    case round =>
      obtain ⟨j, hj, rfl, HT, hbr⟩ := hrel
      have c3 := cell_keep hbr a3
      have c4 := cell_keep hbr a4
      by_cases hjl : j < nl
      · obtain ⟨s, hs⟩ : ∃ x, names[j]? = some x := ⟨_, List.getElem?_eq_getElem (by rw [HE1.out]; exact hjl)⟩
        obtain ⟨nb, no_, rfl, hcell⟩ := HNC.out j s hs
        have hcell2 := cell_keep (below_more hB3 hbr) hcell
        obtain ⟨u, hu⟩ : ∃ u, writ s = u := ⟨_, rfl⟩
        have hct := refText_any s wr (HNM.out s (List.mem_of_getElem? hs)) u hu
        have HU := Lib.hid hu
        have HS := Lib.hid hs
        have HCT := Lib.hid hct
        have hj0 : (0 : Int) ≤ (j : Int) := by omega
        have hj1 : (j : Int) < (nl : Int) := by omega
        clear hu hs hct hcell
        go_wp2_with fail
        refine HCT.out.mono ?_
        rintro e w4 ⟨rfl, hb4⟩
        cases u with
        | true =>
          go_wp2_with fail
          refine ⟨⟨j + 1, by omega, by go_num, ?_, below_more hbr hb4⟩, by simp [intOf]; omega⟩
          exact all_step HS.out HT.out HU.out
        | false =>
          obtain rfl : r = false := by rw [← hr.out, all_no HS.out HU.out]; simp
          go_wp2_with fail
          go_ret
          exact ⟨rfl, below_more (below_more hB3 hbr) hb4⟩
      · have hall : names.all writ = true := by
          have := HT.out
          rwa [List.take_of_length_le (by rw [HE1.out]; omega)] at this
        have HALL := Lib.hid hall
        clear hall HT HNC
        go_wp2_with fail
        go_loopw [4] (fun i wr => ∃ j : Nat, j ≤ il ∧ i = .int .i64 j ∧ Hid (goodVs (items.take j) = true) ∧ Below w3.heap.size w3 wr) (fun i _ => il - (intOf i).toNat)
        case atStart => exact ⟨0, by omega, rfl, by simp [Hid, goodVs], hbr⟩
        case round =>
          obtain ⟨j, hj, rfl, HT, hbr⟩ := hrel
          have c4 := cell_keep hbr a4
          by_cases hjl : j < il
          · obtain ⟨x, hx⟩ : ∃ x, items[j]? = some x := ⟨_, List.getElem?_eq_getElem (by rw [HE2.out]; exact hjl)⟩
            obtain ⟨_, _, e', -, hpart⟩ := (HIs.out.keep (below_more hB3 hbr)).parts
            simp only [Value.slice.injEq] at e'
            obtain ⟨rfl, -, rfl⟩ := e'
            obtain ⟨xb, xo, xn, xi, rfl, x0, x1, x2, x3, x4, q⟩ := hpart j x hx
            have hvx := valAt_iff.2 ⟨xn, xi, rfl, q⟩
            obtain ⟨-, -, -, -, -, q1, q2⟩ := q
            obtain ⟨xi1, xi2, rfl, -, -⟩ := q2.parts
            obtain ⟨xn1, xn2, rfl, -, -, -⟩ := q1.parts
            obtain ⟨u, hu⟩ : ∃ u, goodV x = u := ⟨_, rfl⟩
            have hct := HIH.out x _ wr (List.mem_of_getElem? hx) hvx
            rw [hu] at hct
            have HU := Lib.hid hu
            have HX := Lib.hid hx
            have HCT := Lib.hid hct
            have hj0 : (0 : Int) ≤ (j : Int) := by omega
            have hj1 : (j : Int) < (il : Int) := by omega
            clear hu hx hct hpart q1 q2 hvx
            go_wp2_with fail
            refine HCT.out.mono ?_
            rintro e w4 ⟨rfl, hb4⟩
            cases u with
            | true =>
              go_wp2_with fail
              refine ⟨⟨j + 1, by omega, by go_num, ?_, below_more hbr hb4⟩, by simp [intOf]; omega⟩
              exact goodVs_step HX.out HT.out HU.out
            | false =>
              obtain rfl : r = false := by rw [← hr.out, goodVs_no HX.out HU.out, Bool.and_false]
              go_wp2_with fail
              go_ret
              exact ⟨rfl, below_more (below_more hB3 hbr) hb4⟩
          · have hall : goodVs items = true := by
              have := HT.out
              rwa [List.take_of_length_le (by rw [HE2.out]; omega)] at this
            obtain rfl : r = true := by rw [← hr.out, HA.out, HALL.out, hall]; rfl
            clear hall
            go_wp2_with fail
            go_ret
            exact ⟨rfl, below_more hB3 hbr⟩
theorem wtN_mem : ∀ {l : List ByteArray} {s : ByteArray}, s ∈ l → s.size ≤ wtN l
  | x :: r, s, h => by
    have e : wtN (x :: r) = (2 + x.size) + wtN r := by simp [wtN]
    rw [e]
    rcases List.mem_cons.1 h with rfl | h
    · omega
    · have := wtN_mem h; omega
theorem wtL_mem : ∀ {l : List JV} {x : JV}, x ∈ l → wt x ≤ wtL l
  | y :: r, x, h => by
    rw [wtL]
    rcases List.mem_cons.1 h with rfl | h
    · omega
    · have := wtL_mem h; omega
mutual
theorem count_wt : ∀ V : JV, countV V ≤ wt V
  | .mk k n t names items => by
    rw [countV, wt_eq]
    have := count_wtL items
    simp only [JV.items]
    omega
theorem count_wtL : ∀ l : List JV, countL l ≤ wtL l
  | [] => by rw [countL, wtL]; omega
  | x :: r => by
    rw [countL, wtL]
    have := count_wt x
    have := count_wtL r
    omega
end
theorem refPart_fuel (N : Nat) : ∀ (V : JV) (v : Value) (w : World), SizeOf.sizeOf V < N → ValAt w V v → wt V ≤ 1000000000 →
    Calls Tryz.prog 17 #[v] w fun e w' => e = .returned (.bool (goodV V)) ∧ Below w.heap.size w w' := by
  induction N with
  | zero => intro V v w h; omega
  | succ N ih =>
    intro V v w hN hV hwt
    obtain ⟨vn, vi, rfl, k0, k1, n0, n1, ht, hns, his⟩ := valAt_iff.1 hV
    have hw := wt_eq V
    have hsub : ∀ (x : JV) (a : Value) (wr : World), x ∈ V.items → ValAt wr x a → Calls Tryz.prog 17 #[a] wr fun e w' => e = .returned (.bool (goodV x)) ∧ Below wr.heap.size wr w' := by
      intro x a wr hx ha
      have h1 := JV.size_item hx
      have h2 := wtL_mem hx
      exact ih x a wr (by omega) ha (by omega)
    have hnm : ∀ s ∈ V.names, s.size ≤ 281474976710656 := fun s hs => by have := wtN_mem hs; omega
    clear ih hN hV
    obtain ⟨k, n, t, names, items⟩ := V
    simp only [JV.k, JV.n, JV.t, JV.names, JV.items] at *
    obtain ⟨ai, icap, rfl, hI1, -⟩ := his.parts
    obtain ⟨an, ncap, rfl, hN1, -, -⟩ := hns.parts
    by_cases h1 : k = 1
    · subst h1; exact refPart_1 n t names items an ai ncap icap w hN1 hI1 _ rfl
    by_cases h2 : k = 2
    · subst h2; exact refPart_2 n t names items an ai ncap icap w hN1 hI1 _ rfl
    by_cases h3 : k = 3
    · subst h3; exact refPart_3 n t names items an ai ncap icap w (by omega) hN1 hI1 _ rfl
    by_cases h4 : k = 4
    · subst h4
      have hg : goodV (.mk 4 n t names items) = (properB (.mk 4 n t names items) && goodVs items) := by rw [goodV_eq]; rfl
      rw [hg]
      by_cases hn : n = 0
      · by_cases htl : t.toList = []
        · by_cases hnl : 0 < names.length
          · rw [show properB (.mk 4 n t names items) = false by simp [properB, hnl], Bool.false_and]
            exact refPart_4l n t an ai _ _ ncap icap w (by simp [hn]) htl hnl
          · obtain rfl : names = [] := List.length_eq_zero_iff.1 (by omega)
            have hp : properB (.mk 4 n t [] items) = true := by simp [properB, hn, htl]
            rw [hp]
            exact refPart_4go n t [] items _ _ w hns his (by simp [hn]) htl rfl hnm hsub _ (by simp [Hid, ascB])
        · rw [show properB (.mk 4 n t names items) = false by simp [properB, htl], Bool.false_and]
          exact refPart_4t n t an ai _ _ ncap icap w (by simp [hn]) htl
      · rw [show properB (.mk 4 n t names items) = false by simp [properB, hn], Bool.false_and]
        exact refPart_4n n t an ai _ _ ncap icap w (by simp [hn])
    by_cases h5 : k = 5
    · subst h5
      have hg : goodV (.mk 5 n t names items) = (properB (.mk 5 n t names items) && goodVs items) := by rw [goodV_eq]; rfl
      rw [hg]
      by_cases hn : n = 0
      · by_cases htl : t.toList = []
        · by_cases hnl : names.length = items.length
          · have hp : properB (.mk 5 n t names items) = (ascB names && names.all writ) := by simp [properB, hn, htl, hnl]
            rw [hp]
            exact refPart_5go n t names items _ _ w hns his (by simp [hn]) htl hnl hnm hsub _ rfl
          · rw [show properB (.mk 5 n t names items) = false by simp [properB, hnl], Bool.false_and]
            exact refPart_5l n t an ai _ _ ncap icap w (by simp [hn]) htl hnl
        · rw [show properB (.mk 5 n t names items) = false by simp [properB, htl], Bool.false_and]
          exact refPart_5t n t an ai _ _ ncap icap w (by simp [hn]) htl
      · rw [show properB (.mk 5 n t names items) = false by simp [properB, hn], Bool.false_and]
        exact refPart_5n n t an ai _ _ ncap icap w (by simp [hn])
    have hg : goodV (.mk k n t names items) = false := by
      rw [goodV_eq]
      simp [properB, h1, h2, h3, h4, h5]
    rw [hg]
    exact refPart_0 k n t an ai _ _ ncap icap w h1 h2 h3 h4 h5
set_option maxRecDepth 100000 in
set_option maxHeartbeats 2000000 in
theorem refMay_any (V : JV) (v : Value) (w : World) (h : ValAt w V v) (hwt : wt V ≤ 1000000000) (r : Bool) (hr : Hid (mayB V = r)) :
    Calls Tryz.prog 10 #[v] w fun e w' => e = .returned (.bool r) ∧ Below w.heap.size w w' := by
  obtain ⟨vn, vi, rfl, k0, k1, n0, n1, ht, hns, his⟩ := valAt_iff.1 h
  obtain ⟨ai, icap, rfl, -, -⟩ := his.parts
  obtain ⟨an, ncap, rfl, -, -, -⟩ := hns.parts
  have hcv := count_wt V
  have hdc := depth_count V
  obtain ⟨w2, hw2⟩ : ∃ x, x = w.alloc (.cells #[.int .u8 V.k, .int .i64 V.n, .string V.t, .slice an V.names.length ncap, .slice ai V.items.length icap] 26) := ⟨_, rfl⟩
  have hB2 : Below w.heap.size w w2 := by rw [hw2]; exact bel_alloc (Below.refl _ _) _
  have a0 : w2.cell? ⟨w.heap.size, 0, none⟩ = some (.int .u8 V.k) := by rw [hw2, cell_al_eq _ _ _ _ _ rfl]; rfl
  have a1 : w2.cell? ⟨w.heap.size, 1, none⟩ = some (.int .i64 V.n) := by rw [hw2, cell_al_eq _ _ _ _ _ rfl]; rfl
  have a2 : w2.cell? ⟨w.heap.size, 2, none⟩ = some (.string V.t) := by rw [hw2, cell_al_eq _ _ _ _ _ rfl]; rfl
  have a3 : w2.cell? ⟨w.heap.size, 3, none⟩ = some (.slice an V.names.length ncap) := by rw [hw2, cell_al_eq _ _ _ _ _ rfl]; rfl
  have a4 : w2.cell? ⟨w.heap.size, 4, none⟩ = some (.slice ai V.items.length icap) := by rw [hw2, cell_al_eq _ _ _ _ _ rfl]; rfl
  have hV2 := Lib.hid (h.keep hB2)
  have HW := Lib.hid hw2
  have hcall := refPart_fuel _ V _ w2 (Nat.lt_succ_self _) hV2.out hwt
  obtain ⟨g, hg⟩ : ∃ g, goodV V = g := ⟨_, rfl⟩
  rw [hg] at hcall
  have HG := Lib.hid hg
  have HC := Lib.hid hcall
  clear hw2 h hns his hcall hg
  have hrr : r = (g && (decide (countV V ≤ 8192) && decide (depthV V ≤ 12))) := by
    rw [← hr.out, Bool.eq_iff_iff, mayB_iff, HG.out]
    simp only [Bool.and_eq_true, decide_eq_true_eq]
    constructor
    · rintro ⟨x, y, z⟩; exact ⟨x, z, y⟩
    · rintro ⟨x, z, y⟩; exact ⟨x, y, z⟩
  have HRR := Lib.hid hrr
  clear hrr hr
  go_enter Tryz.func10, Tryz.ntmps10
  go_wp2_with fail
  rw [← HW.out]
  refine HC.out.mono ?_
  rintro e w3 ⟨rfl, hb3⟩
  cases g with
  | false =>
    go_wp2_with fail
    go_ret
    exact ⟨ret_bool (by rw [HRR.out]; rfl), below_more hB2 hb3⟩
  | true =>
    have a0 := cell_keep hb3 a0
    have a1 := cell_keep hb3 a1
    have a2 := cell_keep hb3 a2
    have a3 := cell_keep hb3 a3
    have a4 := cell_keep hb3 a4
    have hV3 := Lib.hid (hV2.out.keep hb3)
    go_wp2_with fail
    refine (refCount_any _ V _ _ (Nat.lt_succ_self _) hV3.out (by omega)).mono ?_
    rintro e w4 ⟨rfl, hb4⟩
    have a0 := cell_keep hb4 a0
    have a1 := cell_keep hb4 a1
    have a2 := cell_keep hb4 a2
    have a3 := cell_keep hb4 a3
    have a4 := cell_keep hb4 a4
    have hV4 := Lib.hid (hV3.out.keep hb4)
    by_cases hc : countV V ≤ 8192
    · have hci : (countV V : Int) ≤ 8192 := by omega
      go_wp2_with fail
      refine (refDepth_any _ V _ _ (Nat.lt_succ_self _) hV4.out (by omega)).mono ?_
      rintro e w5 ⟨rfl, hb5⟩
      go_wp2_with fail
      go_ret
      refine ⟨ret_bool ?_, below_more (below_more (below_more hB2 hb3) hb4) hb5⟩
      rw [HRR.out, decide_eq_true hc, Bool.true_and, Bool.true_and, Bool.eq_iff_iff, decide_eq_true_eq, decide_eq_true_eq]
      omega
    · have hci : ¬ (countV V : Int) ≤ 8192 := by omega
      go_wp2_with fail
      go_ret
      exact ⟨ret_bool (by rw [HRR.out, decide_eq_false hc]; rfl), below_more (below_more hB2 hb3) hb4⟩
end Go.Proofs.YtfdecbfcddkoiaaGreatDoor
