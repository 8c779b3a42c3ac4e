/-
  legateref08: which values may be, as the document tells it.
-/
import Derived.Test.YtfdecbfcddkoiaaGreatDoorUtfA
import Derived.Test.YtfdecbfcddkoiaaGreatDoorCanonUniq
namespace Go.Proofs.YtfdecbfcddkoiaaGreatDoor
open Go.RowKit

theorem refText_any (s : ByteArray) (w : World) (hs : s.size ≤ 281474976710656) (r : Bool) (hr : Hid (writ s = r)) :
    Calls Tryz.prog 34 #[.string s] w fun e w' => e = .returned (.bool r) ∧ Below w.heap.size w w' := by
  obtain ⟨u, hu⟩ : ∃ u, utfOK s = u := ⟨_, rfl⟩
  have hL := refLen_any s w hs
  unfold RefLenPost at hL
  rw [hu] at hL
  have hrr : r = (decide (s.size ≤ 4096) && u) := by rw [← hr.out, writ, hu]
  have HRR := Lib.hid hrr
  clear hrr hu hr
  cases u with
  | true =>
    go_enter Tryz.func34, Tryz.ntmps34
    go_wp2_with fail
    refine hL.mono ?_
    rintro e w2 ⟨n, rfl, hb⟩
    go_wp2_with fail
    go_ret
    refine ⟨ret_bool ?_, hb⟩
    rw [HRR.out, Bool.and_true]
    rw [Bool.eq_iff_iff, decide_eq_true_eq, decide_eq_true_eq]
    omega
  | false =>
    go_enter Tryz.func34, Tryz.ntmps34
    go_wp2_with fail
    refine hL.mono ?_
    rintro e w2 ⟨n, rfl, hb⟩
    go_wp2_with fail
    go_ret
    exact ⟨ret_bool (by rw [HRR.out, Bool.and_false]), hb⟩

/-- One of two strings comes first, or they are the same. -/
theorem less_tri : ∀ (x y : List UInt8), (Op.bytesLess x y = true ∧ Op.bytesLess y x = false ∧ y ≠ x) ∨ (Op.bytesLess x y = false ∧ (Op.bytesLess y x = true ∨ y = x))
  | [], [] => Or.inr ⟨rfl, Or.inr rfl⟩
  | [], b :: y => Or.inl ⟨rfl, rfl, by simp⟩
  | a :: x, [] => Or.inr ⟨rfl, Or.inl rfl⟩
  | a :: x, b :: y => by
    simp only [Op.bytesLess]
    by_cases h1 : a < b
    · have h2 : ¬ b < a := by rw [UInt8.lt_iff_toNat_lt] at h1 ⊢; omega
      have h3 : ¬ b = a := by rintro rfl; exact h2 h1
      exact Or.inl ⟨by simp [h1], by simp [h2, h3], by simp [h3]⟩
    · by_cases h2 : b < a
      · have h3 : ¬ a = b := by rintro rfl; exact h1 h2
        exact Or.inr ⟨by simp [h1, h3], Or.inl (by simp [h2])⟩
      · have h3 : a = b := by
          apply UInt8.toNat_inj.1
          rw [UInt8.lt_iff_toNat_lt] at h1 h2
          omega
        subst h3
        rcases less_tri x y with ⟨g1, g2, g3⟩ | ⟨g1, g2⟩
        · exact Or.inl ⟨by simp [g1], by simp [g2, h1], by simp [g3]⟩
        · refine Or.inr ⟨by simp [g1, h1], ?_⟩
          rcases g2 with g2 | g2
          · exact Or.inl (by simp [g2])
          · exact Or.inr (by rw [g2])

set_option maxRecDepth 100000 in
set_option maxHeartbeats 1000000 in
theorem refRise_any (l : List ByteArray) (v : Value) (w : World) (h : StrsAt w v l) :
    Calls Tryz.prog 35 #[v] w fun e w' => e = .returned (.bool (ascB l)) ∧ Below w.heap.size w w' := by
  obtain ⟨a, cap, rfl, hl, hm, hc⟩ := h.parts
  have HC := Lib.hid hc
  clear hc h hm
  obtain ⟨len, hlen⟩ : ∃ n, l.length = n := ⟨_, rfl⟩
  rw [hlen] at hl ⊢
  have HL := Lib.hid hlen
  clear hlen
  go_enter Tryz.func35, Tryz.ntmps35
  go_wp2_with fail
  go_loopw [3] (fun i wr => ∃ k : Nat, 1 ≤ k ∧ (k ≤ len ∨ k = 1) ∧ i = .int .i64 k ∧ Hid (ascTo l k = true) ∧ ∃ nq, wr = w.drewN nq) (fun i _ => len - (intOf i).toNat)
  case atStart => exact ⟨1, by omega, Or.inr rfl, rfl, rfl, 0, rfl⟩
  case round =>
    obtain ⟨k, hk1, hk, rfl, HA, nq, rfl⟩ := hrel
    obtain ⟨j, rfl⟩ : ∃ j, k = j + 1 := ⟨k - 1, by omega⟩
    by_cases hlt : j + 1 < len
    · obtain ⟨s, hs⟩ : ∃ s, l[j + 1]? = some s := ⟨_, List.getElem?_eq_getElem (by rw [HL.out]; exact hlt)⟩
      obtain ⟨p, hp⟩ : ∃ s, l[j]? = some s := ⟨_, List.getElem?_eq_getElem (by rw [HL.out]; omega)⟩
      obtain ⟨b, o, rfl, hcs⟩ := HC.out (j + 1) s hs
      obtain ⟨b', o', hbo, hcp⟩ := HC.out j p hp
      simp only [Option.some.injEq, Addr.mk.injEq, and_true] at hbo
      obtain ⟨rfl, rfl⟩ := hbo
      have hless : lessAt l j = Op.bytesLess p.toList s.toList := by simp [lessAt, List.getD, hs, hp]
      have hto : ascTo l (j + 1 + 1) = (ascTo l (j + 1) && lessAt l j) := by
        simp only [ascTo, Nat.add_sub_cancel, List.range_succ, List.all_append, List.all_cons, List.all_nil, Bool.and_true]
      have HLs := Lib.hid hless
      have HTo := Lib.hid hto
      clear hs hp hless hto
      have hw1 : IntKind.i64.wrap ((j : Int) + 1 - 1) = (j : Int) := by rw [IntWalk.i64_in ((j : Int) + 1 - 1) (by omega)]; omega
      have hj0 : (0 : Int) ≤ (j : Int) := by omega
      have hj1 : (j : Int) < (len : Int) := by omega
      have hj2 : (j : Int) + 1 < (len : Int) := by omega
      have hj3 : ((j : Int) + 1).toNat = j + 1 := by omega
      by_cases hb : Op.bytesLess p.toList s.toList = true
      · have hb1 : Op.bytesLess s.toList p.toList = false ∧ (s.toList == p.toList) = false := by
          rcases less_tri p.toList s.toList with ⟨_, g2, g3⟩ | ⟨g1, _⟩
          · exact ⟨g2, beq_eq_false_iff_ne.2 g3⟩
          · rw [g1] at hb; cases hb
        obtain ⟨hb2, hb3⟩ := hb1
        go_wp2_with fail
        go_quiet (fail)
        go_wp2_with fail
        refine ⟨⟨j + 1 + 1, by omega, by omega, by go_num, ?_, _, rfl⟩, ?_⟩
        · show ascTo l (j + 1 + 1) = true
          rw [HTo.out, HA.out, HLs.out]; simpa using hb
        · simp [intOf]; omega
      · have hbf : Op.bytesLess p.toList s.toList = false := by simpa using hb
        have hno : ascB l = false := by
          rw [ascB, List.all_eq_false]
          refine ⟨j, List.mem_range.2 (by rw [HL.out]; omega), ?_⟩
          rw [HLs.out, hbf]; simp
        have HNO := Lib.hid hno
        have hb1 : Op.bytesLess s.toList p.toList = true ∨ (s.toList == p.toList) = true := by
          rcases less_tri p.toList s.toList with ⟨g1, _⟩ | ⟨_, g2⟩
          · rw [g1] at hbf; cases hbf
          · rcases g2 with g2 | g2
            · exact Or.inl g2
            · exact Or.inr (by rw [g2]; exact beq_self_eq_true _)
        clear hno hb
        rcases hb1 with hb1 | hb1
        all_goals
          go_wp2_with fail
          go_quiet (fail)
          go_wp2_with fail
          go_ret
          exact ⟨ret_bool HNO.out.symm, bel_drewN (bel_drewN (Below.refl _ _) _) _⟩
    · have hyes : ascB l = true := by
        have := HA.out
        rw [ascB, HL.out]
        rw [ascTo] at this
        have e : len - 1 = j + 1 - 1 := by omega
        rw [e]; exact this
      have HY := Lib.hid hyes
      clear hyes
      go_wp2_with fail
      go_ret
      exact ⟨ret_bool HY.out.symm, bel_drewN (Below.refl _ _) _⟩

/-- What a walk over a value's Items starts from: the box, and the Items in it. -/
theorem countL_take {items : List JV} {j : Nat} {x : JV} (h : items[j]? = some x) : countL (items.take (j + 1)) = countL (items.take j) + countV x := by
  have app : ∀ a b : List JV, countL (a ++ b) = countL a + countL b := by
    intro a b
    induction a with
    | nil => simp [countL]
    | cons y r ih => simp only [List.cons_append, countL, ih]; omega
  rw [List.take_add_one, h, app]; simp [countL]
theorem depthL_take {items : List JV} {j : Nat} {x : JV} (h : items[j]? = some x) : depthL (items.take (j + 1)) = max (depthL (items.take j)) (depthV x) := by
  have app : ∀ a b : List JV, depthL (a ++ b) = max (depthL a) (depthL b) := by
    intro a b
    induction a with
    | nil => simp [depthL]
    | cons y r ih => simp only [List.cons_append, depthL, ih]; omega
  rw [List.take_add_one, h, app]; simp [depthL]
theorem countL_takeLe (items : List JV) (j : Nat) : countL (items.take j) ≤ countL items := by
  have app : ∀ a b : List JV, countL (a ++ b) = countL a + countL b := by
    intro a b
    induction a with
    | nil => simp [countL]
    | cons y r ih => simp only [List.cons_append, countL, ih]; omega
  have := app (items.take j) (items.drop j)
  rw [List.take_append_drop] at this
  omega
mutual
theorem depth_count : ∀ (V : JV), depthV V ≤ countV V
  | .mk k n t names items => by
    rw [depthV, countV]
    have := depth_countL items
    split <;> omega
theorem depth_countL : ∀ (l : List JV), depthL l ≤ countL l
  | [] => by rw [depthL, countL]; omega
  | x :: r => by
    rw [depthL, countL]
    have h1 := depth_count x
    have h2 := depth_countL r
    omega
end

set_option maxRecDepth 100000 in
set_option maxHeartbeats 2000000 in
theorem refCount_any (N : Nat) : ∀ (V : JV) (v : Value) (w : World), SizeOf.sizeOf V < N → ValAt w V v → countV V ≤ 1000000000 →
    Calls Tryz.prog 18 #[v] w fun e w' => e = .returned (.int .i64 (countV V)) ∧ Below w.heap.size w w' := by
  induction N with
  | zero => intro V v w h; omega
  | succ N ih =>
    intro V v w hN hV hcnt
    have HIH := Lib.hid ih
    clear ih
    obtain ⟨vn, vi, rfl, k0, k1, n0, n1, ht, hns, his⟩ := valAt_iff.1 hV
    have HIs := Lib.hid his
    obtain ⟨ai, icap, rfl, hI1, -⟩ := his.parts
    obtain ⟨an, ncap, rfl, -, -, -⟩ := hns.parts
    obtain ⟨il, e2⟩ : ∃ x, V.items.length = x := ⟨_, rfl⟩
    rw [e2] at hI1 HIs ⊢
    have HE2 := Lib.hid e2
    clear e2 his hns hV
    have hcv := countV_eq V
    rw [hcv] at hcnt
    have HCV := Lib.hid hcv
    clear hcv
    obtain ⟨w2, hw2⟩ : ∃ x, x = w.alloc (.cells #[.int .u8 V.k, .int .i64 V.n, .string V.t, .slice an V.names.length ncap, .slice ai il icap] 26) := ⟨_, rfl⟩
    have hB2 : Below w.heap.size w w2 := by rw [hw2]; exact bel_alloc (Below.refl _ _) _
    have a4 : w2.cell? ⟨w.heap.size, 4, none⟩ = some (.slice ai il icap) := by rw [hw2, cell_al_eq _ _ _ _ _ rfl]; rfl
    have HW := Lib.hid hw2
    clear hw2
    go_enter Tryz.func18, Tryz.ntmps18
    go_wp2_with fail
    rw [← HW.out]
    go_loopw [3, 4] (fun n i wr => ∃ (j m : Nat), j ≤ il ∧ i = .int .i64 j ∧ n = .int .i64 m ∧ m ≤ 1000000000 ∧ Hid (m = 1 + countL (V.items.take j)) ∧ Below w2.heap.size w2 wr) (fun _ i _ => il - (intOf i).toNat)
    case atStart => exact ⟨0, 1, by omega, rfl, rfl, by omega, by simp [Hid, countL], Below.refl _ _⟩
    case round =>
      obtain ⟨j, m, hj, rfl, rfl, hm, HM, hbr⟩ := hrel
      have c4 := cell_keep hbr a4
      by_cases hjl : j < il
      · obtain ⟨x, hx⟩ : ∃ x, V.items[j]? = some x := ⟨_, List.getElem?_eq_getElem (by rw [HE2.out]; exact hjl)⟩
        obtain ⟨_, _, e', -, hpart⟩ := (HIs.out.keep (below_more hB2 hbr)).parts
        simp only [Value.slice.injEq] at e'
        obtain ⟨rfl, -, rfl⟩ := e'
        obtain ⟨xb, xo, xn, xi, rfl, x0, x1, x2, x3, x4, q⟩ := hpart j x hx
        have hvx := valAt_iff.2 ⟨xn, xi, rfl, q⟩
        obtain ⟨-, -, -, -, -, q1, q2⟩ := q
        obtain ⟨xi1, xi2, rfl, -, -⟩ := q2.parts
        obtain ⟨xn1, xn2, rfl, -, -, -⟩ := q1.parts
        have hst := countL_take hx
        have hle := countL_takeLe V.items (j + 1)
        have hcx : countV x ≤ 1000000000 := by omega
        have hsx := JV.size_item (List.mem_of_getElem? hx)
        have hcall := HIH.out x _ wr (by omega) hvx hcx
        have HST := Lib.hid hst
        have HC := Lib.hid hcall
        have hmx : m + countV x ≤ 1000000000 := by have := HM.out; omega
        have hj0' : (0 : Int) ≤ (j : Int) := by omega
        have hj1' : (j : Int) < (il : Int) := by omega
        clear hst hcall hpart hx q1 q2 hvx hle
        go_wp2_with fail
        refine HC.out.mono ?_
        rintro e w4 ⟨rfl, hb4⟩
        go_wp2_with fail
        refine ⟨⟨j + 1, m + countV x, by omega, by go_num, by go_num, by omega, ?_, below_more hbr hb4⟩, by simp [intOf]; omega⟩
        show m + countV x = _
        have h1 := HM.out
        have h2 := HST.out
        omega
      · have hall : (m : Int) = countV V := by
          have := HM.out
          rw [List.take_of_length_le (by rw [HE2.out]; omega)] at this
          have h2 := HCV.out
          omega
        have HALL := Lib.hid hall
        clear hall
        go_wp2_with fail
        go_ret
        exact ⟨ret_int HALL.out, below_more hB2 hbr⟩
end Go.Proofs.YtfdecbfcddkoiaaGreatDoor
