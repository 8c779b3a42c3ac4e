/-
  The examples that every statement on numbers asks: they are as they are told.
-/
import Derived.Test.YtjekdhahbkofbaaDoorNumRead
namespace Go.Proofs.YtjekdhahbkofbaaDoor
open Go.RowKit

/-- A text of the form whose number fits is read whole. -/
theorem readP_whole {l : List UInt8} (hf : Nm.form l = true) (hn : l.all Nm.isN = true) (h0 : -9223372036854775808 ≤ Nm.val l) (h1 : Nm.val l ≤ 9223372036854775807) : readP l 0 = (Nm.val l, (l.length : Int), 0) := by
  have hr : Nm.run l 0 = l := by
    rw [Nm.run, List.drop_zero]
    rw [List.all_eq_true] at hn
    have := List.takeWhile_append_of_pos (p := Nm.isN) (l₁ := l) (l₂ := []) hn
    simpa using this
  have := readP_in (l := l) (a := 0) (Nat.zero_le _)
  rw [hr, if_neg (by simp [hf]), if_pos ⟨h0, h1⟩] at this
  simpa using this

set_option maxHeartbeats 400000 in
theorem is_true (s : ByteArray) (n : Int) (w : World) (henv : NumEnv w) (hs : s.size ≤ 281474976710656) (h0 : -9223372036854775808 ≤ n) (h1 : n ≤ 9223372036854775807)
    (h : Hid (readP s.data.toList 0 = (n, (s.size : Int), 0))) (hi : Hid ((⟨(Lib.itoa n).toArray⟩ : ByteArray) = s)) :
    Calls Tryd.prog 28 #[.string s, .int .i64 n] w fun e w' => e = .returned (.bool true) ∧ Below w.heap.size w w' := by
  go_enter Tryd.func28, Tryd.ntmps28
  go_wp2_with fail
  refine (Read_any s 0 _ hs henv).mono ?_
  rintro e w1 ⟨rfl, hb1⟩
  rw [h.out]
  go_wp2_with fail
  refine (Show_any n h0 h1 _ (henv.below hb1).toTabEnv).mono ?_
  rintro e w2 ⟨rfl, hb2⟩
  rw [hi.out]
  go_wp2_with fail
  go_ret
  exact ⟨ret_bool (by simp), below_more hb1 hb2⟩

set_option maxHeartbeats 400000 in
theorem no_true (s : ByteArray) (n : Int) (w : World) (henv : NumEnv w) (hs : s.size ≤ 281474976710656) (h : Hid (readP s.data.toList 0 = (0, 0, n))) :
    Calls Tryd.prog 29 #[.string s, .int .i64 n] w fun e w' => e = .returned (.bool true) ∧ Below w.heap.size w w' := by
  go_enter Tryd.func29, Tryd.ntmps29
  go_wp2_with fail
  refine (Read_any s 0 _ hs henv).mono ?_
  rintro e w1 ⟨rfl, hb1⟩
  rw [h.out]
  go_wp2_with fail
  go_ret
  exact ⟨ret_bool (by simp), hb1⟩

/-- The number n has the text l. -/
def isOK (l : List UInt8) (n : Int) : Bool := Nm.form l && l.all Nm.isN && decide (Nm.val l = n) && decide (-9223372036854775808 ≤ n) && decide (n ≤ 9223372036854775807) && decide (l.length ≤ 100)
theorem is_lit (l : List UInt8) (n : Int) (w : World) (henv : NumEnv w) (h : isOK l n = true) :
    Calls Tryd.prog 28 #[.string ⟨l.toArray⟩, .int .i64 n] w fun e w' => e = .returned (.bool true) ∧ Below w.heap.size w w' := by
  simp only [isOK, Bool.and_eq_true, decide_eq_true_eq] at h
  obtain ⟨⟨⟨⟨⟨hf, hn⟩, rfl⟩, h0⟩, h1⟩, hl⟩ := h
  refine is_true _ _ w henv (by rw [bytes_size]; omega) h0 h1 ?_ ?_
  · exact readP_whole hf hn h0 h1
  · show (⟨(Lib.itoa (Nm.val l)).toArray⟩ : ByteArray) = ⟨l.toArray⟩
    rw [Nm.itoa_val hf]
def noOK (l : List UInt8) (n : Int) : Bool := decide (readP l 0 = (0, 0, n)) && decide (l.length ≤ 100)
theorem no_lit (l : List UInt8) (n : Int) (w : World) (henv : NumEnv w) (h : noOK l n = true) :
    Calls Tryd.prog 29 #[.string ⟨l.toArray⟩, .int .i64 n] w fun e w' => e = .returned (.bool true) ∧ Below w.heap.size w w' := by
  simp only [noOK, Bool.and_eq_true, decide_eq_true_eq] at h
  exact no_true _ _ w henv (by rw [bytes_size]; omega) h.1

set_option maxRecDepth 100000 in
set_option maxHeartbeats 1000000 in
theorem awake6_any (w : World) (henv : NumEnv w) :
    Calls Tryd.prog 23 #[] w fun e w' => e = .returned (.bool true) ∧ Below w.heap.size w w' := by
  have hB0 : Below w.heap.size w w := Below.refl _ _
  have henv0 := henv
  clear henv
  go_enter Tryd.func23, Tryd.ntmps23
  go_wp2_with fail
  refine (is_lit [49, 50] 12 _ henv0 (by decide +kernel)).mono ?_
  rintro e w1 ⟨rfl, hb⟩
  have henv1 := henv0.below hb
  have hB1 := below_more hB0 hb
  clear hb henv0 hB0
  go_wp2_with fail
  refine (is_lit [45, 57, 50, 50, 51, 51, 55, 50, 48, 51, 54, 56, 53, 52, 55, 55, 53, 56, 48, 56] (-9223372036854775808) _ henv1 (by decide +kernel)).mono ?_
  rintro e w2 ⟨rfl, hb⟩
  have henv2 := henv1.below hb
  have hB2 := below_more hB1 hb
  clear hb henv1 hB1
  go_wp2_with fail
  refine (no_lit [57, 50, 50, 51, 51, 55, 50, 48, 51, 54, 56, 53, 52, 55, 55, 53, 56, 48, 56] 9 _ henv2 (by decide +kernel)).mono ?_
  rintro e w3 ⟨rfl, hb⟩
  have henv3 := henv2.below hb
  have hB3 := below_more hB2 hb
  clear hb henv2 hB2
  go_wp2_with fail
  refine (no_lit [48, 48] 3 _ henv3 (by decide +kernel)).mono ?_
  rintro e w4 ⟨rfl, hb⟩
  have henv4 := henv3.below hb
  have hB4 := below_more hB3 hb
  clear hb henv3 hB3
  go_wp2_with fail
  refine (no_lit [45, 48] 3 _ henv4 (by decide +kernel)).mono ?_
  rintro e w5 ⟨rfl, hb⟩
  have henv5 := henv4.below hb
  have hB5 := below_more hB4 hb
  clear hb henv4 hB4
  go_wp2_with fail
  refine (no_lit [49, 46, 53] 3 _ henv5 (by decide +kernel)).mono ?_
  rintro e w6 ⟨rfl, hb⟩
  have henv6 := henv5.below hb
  have hB6 := below_more hB5 hb
  clear hb henv5 hB5
  go_wp2_with fail
  refine (no_lit [49, 101, 53] 3 _ henv6 (by decide +kernel)).mono ?_
  rintro e w7 ⟨rfl, hb⟩
  have henv7 := henv6.below hb
  have hB7 := below_more hB6 hb
  clear hb henv6 hB6
  go_wp2_with fail
  refine (no_lit [43, 49] 3 _ henv7 (by decide +kernel)).mono ?_
  rintro e w8 ⟨rfl, hb⟩
  have henv8 := henv7.below hb
  have hB8 := below_more hB7 hb
  clear hb henv7 hB7
  go_wp2_with fail
  refine (no_lit [45] 3 _ henv8 (by decide +kernel)).mono ?_
  rintro e w9 ⟨rfl, hb⟩
  have henv9 := henv8.below hb
  have hB9 := below_more hB8 hb
  clear hb henv8 hB8
  go_wp2_with fail
  refine (no_lit [97] 3 _ henv9 (by decide +kernel)).mono ?_
  rintro e w10 ⟨rfl, hb⟩
  have henv10 := henv9.below hb
  have hB10 := below_more hB9 hb
  clear hb henv9 hB9
  go_wp2_with fail
  refine (is_lit [45, 55] (-7) _ henv10 (by decide +kernel)).mono ?_
  rintro e w11 ⟨rfl, hb⟩
  have henv11 := henv10.below hb
  have hB11 := below_more hB10 hb
  clear hb henv10 hB10
  go_wp2_with fail
  go_ret
  exact ⟨rfl, hB11⟩
end Go.Proofs.YtjekdhahbkofbaaDoor
