/-
  legateref08: Depth, part, May.
-/
import Derived.Test.YtfdecbfcddkoiaaGreatDoorValRef
namespace Go.Proofs.YtfdecbfcddkoiaaGreatDoor
open Go.RowKit

set_option maxRecDepth 100000 in
set_option maxHeartbeats 2000000 in
theorem refDepth_any (N : Nat) : ∀ (V : JV) (v : Value) (w : World), SizeOf.sizeOf V < N → ValAt w V v → countV V ≤ 1000000000 →
    Calls Tryz.prog 19 #[v] w fun e w' => e = .returned (.int .i64 (depthV V)) ∧ Below w.heap.size w w' := by
  induction N with
  | zero => intro V v w h; omega
  | succ N ih =>
    intro V v w hN hV hcnt
    have HIH := Lib.hid ih
    clear ih
    obtain ⟨vn, vi, rfl, k0, k1, n0, n1, ht, hns, his⟩ := valAt_iff.1 hV
    have HIs := Lib.hid his
    obtain ⟨ai, icap, rfl, hI1, -⟩ := his.parts
    obtain ⟨an, ncap, rfl, -, -, -⟩ := hns.parts
    obtain ⟨il, e2⟩ : ∃ x, V.items.length = x := ⟨_, rfl⟩
    rw [e2] at hI1 HIs ⊢
    have HE2 := Lib.hid e2
    clear e2 his hns hV
    have hdv := depthV_eq V
    rw [countV_eq V] at hcnt
    have HDV := Lib.hid hdv
    clear hdv
    obtain ⟨w2, hw2⟩ : ∃ x, x = w.alloc (.cells #[.int .u8 V.k, .int .i64 V.n, .string V.t, .slice an V.names.length ncap, .slice ai il icap] 26) := ⟨_, rfl⟩
    have hB2 : Below w.heap.size w w2 := by rw [hw2]; exact bel_alloc (Below.refl _ _) _
    have a4 : w2.cell? ⟨w.heap.size, 4, none⟩ = some (.slice ai il icap) := by rw [hw2, cell_al_eq _ _ _ _ _ rfl]; rfl
    have HW := Lib.hid hw2
    clear hw2
    by_cases hk : V.k = 4 ∨ V.k = 5
    · have hd := HDV.out
      rw [if_pos hk] at hd
      have HD := Lib.hid hd
      clear hd HDV
      have hbb : ((V.k != 4) = false ∧ decide True = true) ∨ ((V.k != 4) = true ∧ (V.k != 5) = false) := by
        rcases hk with hk | hk
        · exact Or.inl ⟨by rw [hk]; rfl, rfl⟩
        · exact Or.inr ⟨by rw [hk]; rfl, by rw [hk]; rfl⟩
      clear hk
      rcases hbb with ⟨hk4, -⟩ | ⟨hk4, hk5⟩
      all_goals
        go_enter Tryz.func19, Tryz.ntmps19
        go_wp2_with fail
        rw [← HW.out]
        go_loopw [3, 4] (fun n i wr => ∃ (j m : Nat), j ≤ il ∧ i = .int .i64 j ∧ n = .int .i64 m ∧ m ≤ 1000000000 ∧ Hid (m = depthL (V.items.take j)) ∧ Below w2.heap.size w2 wr) (fun _ i _ => il - (intOf i).toNat)
        case atStart => exact ⟨0, 0, by omega, rfl, rfl, by omega, by simp [Hid, depthL], Below.refl _ _⟩
        case round =>
          obtain ⟨j, m, hj, rfl, rfl, hm, HM, hbr⟩ := hrel
          have c4 := cell_keep hbr a4
          by_cases hjl : j < il
          · obtain ⟨x, hx⟩ : ∃ x, V.items[j]? = some x := ⟨_, List.getElem?_eq_getElem (by rw [HE2.out]; exact hjl)⟩
            obtain ⟨_, _, e', -, hpart⟩ := (HIs.out.keep (below_more hB2 hbr)).parts
            simp only [Value.slice.injEq] at e'
            obtain ⟨rfl, -, rfl⟩ := e'
            obtain ⟨xb, xo, xn, xi, rfl, x0, x1, x2, x3, x4, q⟩ := hpart j x hx
            have hvx := valAt_iff.2 ⟨xn, xi, rfl, q⟩
            obtain ⟨-, -, -, -, -, q1, q2⟩ := q
            obtain ⟨xi1, xi2, rfl, -, -⟩ := q2.parts
            obtain ⟨xn1, xn2, rfl, -, -, -⟩ := q1.parts
            have hst := depthL_take hx
            have hle := countL_mem (List.mem_of_getElem? hx)
            have hdc := depth_count x
            have hsx := JV.size_item (List.mem_of_getElem? hx)
            have hcall := HIH.out x _ wr (by omega) hvx (by omega)
            have HST := Lib.hid hst
            have HC := Lib.hid hcall
            have hdx : depthV x ≤ 1000000000 := by omega
            have hj0' : (0 : Int) ≤ (j : Int) := by omega
            have hj1' : (j : Int) < (il : Int) := by omega
            clear hst hcall hpart hx q1 q2 hvx hle hdc
            go_wp2_with fail
            refine HC.out.mono ?_
            rintro e w4 ⟨rfl, hb4⟩
            go_wp2_with fail
            refine ⟨⟨j + 1, max m (depthV x), by omega, by go_num, congrArg (Value.int .i64) (by omega), by omega, ?_, below_more hbr hb4⟩, by simp [intOf]; omega⟩
            show max m (depthV x) = _
            rw [HST.out, ← HM.out]
          · have hall : (m : Int) + 1 = depthV V := by
              have := HM.out
              rw [List.take_of_length_le (by rw [HE2.out]; omega)] at this
              have h2 := HD.out
              omega
            have HALL := Lib.hid hall
            clear hall
            go_wp2_with fail
            go_ret
            exact ⟨ret_int HALL.out, below_more hB2 hbr⟩
    · have hd := HDV.out
      rw [if_neg hk] at hd
      have HD := Lib.hid hd
      have hk4 : (V.k != 4) = true := by simp; omega
      have hk5 : (V.k != 5) = true := by simp; omega
      clear hd HDV hk
      go_enter Tryz.func19, Tryz.ntmps19
      go_wp2_with fail
      rw [← HW.out]
      go_ret
      exact ⟨ret_int (by rw [HD.out]; rfl), hB2⟩

set_option maxRecDepth 100000 in
set_option maxHeartbeats 2000000 in
theorem refPart_1 (n : Int) (t : ByteArray) (names : List ByteArray) (items : List JV) (an ai : Option Addr) (ncap icap : Nat) (w : World) (hnl : names.length ≤ 9223372036854775807) (hil : items.length ≤ 9223372036854775807) (r : Bool) (hr : Hid (goodV (.mk 1 n t names items) = r)) :
    Calls Tryz.prog 17 #[.agg #[.int .u8 1, .int .i64 n, .string t, .slice an names.length ncap, .slice ai items.length icap]] w fun e w' => e = .returned (.bool r) ∧ Below w.heap.size w w' := by
  go_enter Tryz.func17, Tryz.ntmps17
  go_wp2_with fail
  all_goals
    go_ret
    refine ⟨ret_bool ?_, bel_alloc (Below.refl _ _) _⟩
    rw [← hr.out, goodV_eq]
    simp only [JV.k, properB]
    clear hr
    cases items <;> cases names <;> simp_all <;> omega
set_option maxRecDepth 100000 in
set_option maxHeartbeats 2000000 in
theorem refPart_2 (n : Int) (t : ByteArray) (names : List ByteArray) (items : List JV) (an ai : Option Addr) (ncap icap : Nat) (w : World) (hnl : names.length ≤ 9223372036854775807) (hil : items.length ≤ 9223372036854775807) (r : Bool) (hr : Hid (goodV (.mk 2 n t names items) = r)) :
    Calls Tryz.prog 17 #[.agg #[.int .u8 2, .int .i64 n, .string t, .slice an names.length ncap, .slice ai items.length icap]] w fun e w' => e = .returned (.bool r) ∧ Below w.heap.size w w' := by
  go_enter Tryz.func17, Tryz.ntmps17
  go_wp2_with fail
  all_goals
    go_ret
    refine ⟨ret_bool ?_, bel_alloc (Below.refl _ _) _⟩
    rw [← hr.out, goodV_eq]
    simp only [JV.k, properB]
    clear hr
    cases items <;> cases names <;> simp_all <;> omega
set_option maxRecDepth 100000 in
set_option maxHeartbeats 2000000 in
theorem refPart_0 (k n : Int) (t : ByteArray) (an ai : Option Addr) (nl il ncap icap : Nat) (w : World) (h1 : ¬ k = 1) (h2 : ¬ k = 2) (h3 : ¬ k = 3) (h4 : ¬ k = 4) (h5 : ¬ k = 5) :
    Calls Tryz.prog 17 #[.agg #[.int .u8 k, .int .i64 n, .string t, .slice an nl ncap, .slice ai il icap]] w fun e w' => e = .returned (.bool false) ∧ Below w.heap.size w w' := by
  have b1 : (k == 1) = false := beq_eq_false_iff_ne.2 h1
  have b2 : (k == 2) = false := beq_eq_false_iff_ne.2 h2
  have b3 : (k == 3) = false := beq_eq_false_iff_ne.2 h3
  have b4 : (k == 4) = false := beq_eq_false_iff_ne.2 h4
  have b5 : (k == 5) = false := beq_eq_false_iff_ne.2 h5
  clear h1 h2 h3 h4 h5
  go_enter Tryz.func17, Tryz.ntmps17
  go_wp2_with fail
  go_ret
  exact ⟨rfl, bel_alloc (Below.refl _ _) _⟩
set_option maxRecDepth 100000 in
set_option maxHeartbeats 2000000 in
theorem refPart_3 (n : Int) (t : ByteArray) (names : List ByteArray) (items : List JV) (an ai : Option Addr) (ncap icap : Nat) (w : World) (hts : t.size ≤ 281474976710656) (hnl : names.length ≤ 9223372036854775807) (hil : items.length ≤ 9223372036854775807) (r : Bool) (hr : Hid (goodV (.mk 3 n t names items) = r)) :
    Calls Tryz.prog 17 #[.agg #[.int .u8 3, .int .i64 n, .string t, .slice an names.length ncap, .slice ai items.length icap]] w fun e w' => e = .returned (.bool r) ∧ Below w.heap.size w w' := by
  obtain ⟨u, hu⟩ : ∃ u, writ t = u := ⟨_, rfl⟩
  have HU := Lib.hid hu
  obtain ⟨w2, hw2⟩ : ∃ x, x = w.alloc (.cells #[.int .u8 3, .int .i64 n, .string t, .slice an names.length ncap, .slice ai items.length icap] 26) := ⟨_, rfl⟩
  have hB2 : Below w.heap.size w w2 := by rw [hw2]; exact bel_alloc (Below.refl _ _) _
  have a3 : w2.cell? ⟨w.heap.size, 3, none⟩ = some (.slice an names.length ncap) := by rw [hw2, cell_al_eq _ _ _ _ _ rfl]; rfl
  have a4 : w2.cell? ⟨w.heap.size, 4, none⟩ = some (.slice ai items.length icap) := by rw [hw2, cell_al_eq _ _ _ _ _ rfl]; rfl
  have HW := Lib.hid hw2
  have hcall := refText_any t w2 hts u HU
  clear hw2 hu
  by_cases hn : n = 0
  · have hnb : (n == 0) = true := by rw [hn]; rfl
    have HN := Lib.hid hn
    clear hn
    go_enter Tryz.func17, Tryz.ntmps17
    go_wp2_with fail
    rw [← HW.out]
    refine hcall.mono ?_
    rintro e w3 ⟨rfl, hb3⟩
    have c3 := cell_keep hb3 a3
    have c4 := cell_keep hb3 a4
    cases u with
    | false =>
      go_wp2_with fail
      go_ret
      refine ⟨ret_bool ?_, below_more hB2 hb3⟩
      rw [← hr.out, goodV_eq]
      simp only [JV.k, properB]
      rw [HU.out]
      simp
    | true =>
      go_wp2_with fail
      all_goals
        go_ret
        refine ⟨ret_bool ?_, below_more hB2 hb3⟩
        rw [← hr.out, goodV_eq]
        simp only [JV.k, properB]
        rw [HU.out, HN.out]
        clear hr HU HW hcall c3 c4 a3 a4
        cases items <;> cases names <;> simp_all <;> omega
  · have hnb : (n == 0) = false := beq_eq_false_iff_ne.2 hn
    have hno : r = false := by
      rw [← hr.out, goodV_eq]
      simp [JV.k, properB, hn]
    have HNO := Lib.hid hno
    clear hn hno hcall
    go_enter Tryz.func17, Tryz.ntmps17
    go_wp2_with fail
    rw [← HW.out]
    go_ret
    exact ⟨ret_bool HNO.out.symm, hB2⟩
set_option maxRecDepth 100000 in
set_option maxHeartbeats 2000000 in
theorem refPart_4n (n : Int) (t : ByteArray) (an ai : Option Addr) (nl il ncap icap : Nat) (w : World) (h : (n != 0) = true) :
    Calls Tryz.prog 17 #[.agg #[.int .u8 4, .int .i64 n, .string t, .slice an nl ncap, .slice ai il icap]] w fun e w' => e = .returned (.bool false) ∧ Below w.heap.size w w' := by
  go_enter Tryz.func17, Tryz.ntmps17
  go_wp2_with fail
  go_ret
  exact ⟨rfl, bel_alloc (Below.refl _ _) _⟩
set_option maxRecDepth 100000 in
set_option maxHeartbeats 2000000 in
theorem refPart_4t (n : Int) (t : ByteArray) (an ai : Option Addr) (nl il ncap icap : Nat) (w : World) (h : (n != 0) = false) (h2 : ¬ t.toList = []) :
    Calls Tryz.prog 17 #[.agg #[.int .u8 4, .int .i64 n, .string t, .slice an nl ncap, .slice ai il icap]] w fun e w' => e = .returned (.bool false) ∧ Below w.heap.size w w' := by
  have h3 : t.toList.isEmpty = false := by cases hh : t.toList with | nil => exact absurd hh h2 | cons a b => rfl
  go_enter Tryz.func17, Tryz.ntmps17
  go_wp2_with fail
  go_ret
  exact ⟨rfl, bel_alloc (Below.refl _ _) _⟩
set_option maxRecDepth 100000 in
set_option maxHeartbeats 2000000 in
theorem refPart_4l (n : Int) (t : ByteArray) (an ai : Option Addr) (nl il ncap icap : Nat) (w : World) (h : (n != 0) = false) (h2 : t.toList = []) (h3 : 0 < nl) :
    Calls Tryz.prog 17 #[.agg #[.int .u8 4, .int .i64 n, .string t, .slice an nl ncap, .slice ai il icap]] w fun e w' => e = .returned (.bool false) ∧ Below w.heap.size w w' := by
  have h4 : (0 : Int) < (nl : Int) := by omega
  have h5 : t.toList.isEmpty = true := by rw [h2]; rfl
  go_enter Tryz.func17, Tryz.ntmps17
  go_wp2_with fail
  go_ret
  exact ⟨rfl, bel_alloc (Below.refl _ _) _⟩
set_option maxRecDepth 100000 in
set_option maxHeartbeats 2000000 in
theorem refPart_5n (n : Int) (t : ByteArray) (an ai : Option Addr) (nl il ncap icap : Nat) (w : World) (h : (n != 0) = true) :
    Calls Tryz.prog 17 #[.agg #[.int .u8 5, .int .i64 n, .string t, .slice an nl ncap, .slice ai il icap]] w fun e w' => e = .returned (.bool false) ∧ Below w.heap.size w w' := by
  go_enter Tryz.func17, Tryz.ntmps17
  go_wp2_with fail
  go_ret
  exact ⟨rfl, bel_alloc (Below.refl _ _) _⟩
set_option maxRecDepth 100000 in
set_option maxHeartbeats 2000000 in
theorem refPart_5t (n : Int) (t : ByteArray) (an ai : Option Addr) (nl il ncap icap : Nat) (w : World) (h : (n != 0) = false) (h2 : ¬ t.toList = []) :
    Calls Tryz.prog 17 #[.agg #[.int .u8 5, .int .i64 n, .string t, .slice an nl ncap, .slice ai il icap]] w fun e w' => e = .returned (.bool false) ∧ Below w.heap.size w w' := by
  have h3 : t.toList.isEmpty = false := by cases hh : t.toList with | nil => exact absurd hh h2 | cons a b => rfl
  go_enter Tryz.func17, Tryz.ntmps17
  go_wp2_with fail
  go_ret
  exact ⟨rfl, bel_alloc (Below.refl _ _) _⟩
set_option maxRecDepth 100000 in
set_option maxHeartbeats 2000000 in
theorem refPart_5l (n : Int) (t : ByteArray) (an ai : Option Addr) (nl il ncap icap : Nat) (w : World) (h : (n != 0) = false) (h2 : t.toList = []) (h3 : ¬ nl = il) :
    Calls Tryz.prog 17 #[.agg #[.int .u8 5, .int .i64 n, .string t, .slice an nl ncap, .slice ai il icap]] w fun e w' => e = .returned (.bool false) ∧ Below w.heap.size w w' := by
  have h4 : ((nl : Int) != (il : Int)) = true := by simp; omega
  have h5 : t.toList.isEmpty = true := by rw [h2]; rfl
  clear h3
  go_enter Tryz.func17, Tryz.ntmps17
  go_wp2_with fail
  go_ret
  exact ⟨rfl, bel_alloc (Below.refl _ _) _⟩
end Go.Proofs.YtfdecbfcddkoiaaGreatDoor
