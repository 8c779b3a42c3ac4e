/-
  quote.Quote: the canonical form of a string.
-/
import Derived.Test.YtjekdhahbkofbaaDoorValMay
import Derived.Test.YtjekdhahbkofbaaDoorBuilder
import Derived.Test.YtjekdhahbkofbaaDoorShelfB
namespace Go.Proofs.YtjekdhahbkofbaaDoor
open Go.RowKit

/-- A builder of the call's own that holds these bytes. -/
def Bld (B b : Nat) (l : List UInt8) (w : World) : Prop := Lib.IsBuilderF 51 5 B b (Lib.byteCells l) w
theorem wb (B b : Nat) (l : List UInt8) (x : Int) (c : UInt8) (hx : x = (c.toNat : Int)) (w : World) (h : Bld B b l w) (hl : l.length < 140737488355328) (hBw : B ≤ w.heap.size) :
    Calls Tryd.prog 37 #[.pointer (some ⟨b, 0, none⟩), .int .u8 x] w fun e w' => e = .returned .nilIface ∧ Bld B b (l ++ [c]) w' ∧ Below B w w' ∧ Lib.OthersKept 5 (some b) w w' := by
  refine (WriteByte_k B b (Lib.byteCells l) x w h (by rw [Lib.byteCells_length]; omega) hBw).mono ?_
  rintro e w' ⟨rfl, h1, h2, h3⟩
  refine ⟨rfl, ?_, h2, h3⟩
  unfold Bld
  rw [Lib.byteCells_append]
  subst hx
  exact Or.inr h1
theorem ws (B b : Nat) (l : List UInt8) (s : ByteArray) (w : World) (h : Bld B b l w) (hl : l.length + s.size ≤ 140737488355328) (hBw : B ≤ w.heap.size) :
    Calls Tryd.prog 35 #[.pointer (some ⟨b, 0, none⟩), .string s] w fun e w' => e = .returned (.tuple #[.int .i64 s.size, .nilIface]) ∧ Bld B b (l ++ s.data.toList) w' ∧ Below B w w' ∧ Lib.OthersKept 5 (some b) w w' := by
  refine (WriteString_k B b (Lib.byteCells l) s w h (by rw [Lib.byteCells_length]; omega) hBw).mono ?_
  rintro e w' ⟨rfl, h1, h2, h3⟩
  refine ⟨rfl, ?_, h2, h3⟩
  unfold Bld
  rw [Lib.byteCells_append]
  exact Or.inr h1

/-- A byte of a string's form. -/
def escB (c : UInt8) : List UInt8 := if c.toNat = 34 ∨ c.toNat = 92 then [92, c] else [c]
def escL (l : List UInt8) : List UInt8 := l.flatMap escB
def quoteL (l : List UInt8) : List UInt8 := 34 :: (escL l ++ [34])
theorem escL_len (l : List UInt8) : (escL l).length ≤ 2 * l.length := by
  induction l with
  | nil => simp [escL]
  | cons c r ih =>
    simp only [escL, List.flatMap_cons, List.length_append, List.length_cons] at *
    have : (escB c).length ≤ 2 := by unfold escB; split <;> simp
    omega
theorem escL_step (s : ByteArray) (k : Nat) (h : k < s.size) : escL (s.data.toList.take (k + 1)) = escL (s.data.toList.take k) ++ escB s[k] := by
  rw [take_snoc s k h, escL, escL, List.flatMap_append]; simp

set_option maxRecDepth 100000 in
set_option maxHeartbeats 1000000 in
theorem Quote_any (s : ByteArray) (w : World) (hw : writ s = true) :
    Calls Tryd.prog 34 #[.string s] w fun e w' => e = .returned (.tuple #[.string ⟨(quoteL s.data.toList).toArray⟩, .int .i64 0]) ∧ Below w.heap.size w w' := by
  have hw2 : s.size ≤ 4096 ∧ utfOK s = true := by simpa [writ] using hw
  obtain ⟨hs, hu⟩ := hw2
  have HU := Lib.hid hu
  clear hw hu
  go_enter Tryd.func34, Tryd.ntmps34
  go_wp2_with fail
  refine (utfValid_any s _ (by unfold maxLen; omega)).mono ?_
  rintro e w1 ⟨rfl, hb1⟩
  rw [HU.out]
  go_wp2_with fail
  have hI : Bld w1.heap.size w1.heap.size [] (w1.alloc (.cells #[.pointer none, .slice none 0 0] 51)) := Lib.IsBuilderF.of (Lib.fresh_isBuilder 51 5 w1)
  refine (wb w1.heap.size w1.heap.size [] 34 34 rfl _ hI (by simp) (by simp)).mono ?_
  rintro e w2 ⟨rfl, hI2, hb2, -⟩
  have hB2 : Below w1.heap.size w1 w2 := ((Below.refl _ _).alloc (Nat.le_refl _) _).trans hb2
  clear hI hb2
  go_wp2_with fail
  go_loopw [15] (fun i wr => ∃ k : Nat, k ≤ s.size ∧ i = .int .i64 k ∧ Bld w1.heap.size w1.heap.size (34 :: escL (s.data.toList.take k)) wr ∧ Below w1.heap.size w1 wr) (fun i _ => s.size - (intOf i).toNat)
  case atStart => exact ⟨0, by omega, rfl, hI2, hB2⟩
  case round =>
    obtain ⟨k, hk, rfl, hIr, hBr⟩ := hrel
    have hln : (34 :: escL (s.data.toList.take k)).length ≤ 10000 := by
      have h1 := escL_len (s.data.toList.take k)
      have h2 : (s.data.toList.take k).length ≤ k := List.length_take_le _ _
      simp only [List.length_cons]; omega
    have hsz := hBr.size
    by_cases hlt : k < s.size
    · have hst := escL_step s k hlt
      have HST := Lib.hid hst
      clear hst
      by_cases hc : s[k].toNat = 34 ∨ s[k].toNat = 92
      · have he : escB s[k] = [92, s[k]] := by rw [escB, if_pos hc]
        have HE := Lib.hid he
        clear he
        have hor : ((s[k].toNat : Int) == 34) = true ∨ (((s[k].toNat : Int) == 34) = false ∧ ((s[k].toNat : Int) == 92) = true) := by
          rcases hc with h | h
          · left; rw [h]; rfl
          · right; rw [h]; exact ⟨rfl, rfl⟩
        clear hc
        rcases hor with h1 | ⟨h1, h2⟩
        all_goals
          go_wp2_with fail
          refine (wb _ _ _ 92 92 rfl _ hIr (by omega) hsz).mono ?_
          rintro e w4 ⟨rfl, hI4, hb4, -⟩
          have hs4 := hb4.size
          go_wp2_with fail
          refine (wb _ _ _ _ s[k] rfl _ hI4 (by rw [List.length_append, List.length_singleton]; omega) (by omega)).mono ?_
          rintro e w5 ⟨rfl, hI5, hb5, -⟩
          go_wp2_with fail
          refine ⟨?_, by simp [intOf]; omega⟩
          have hI6 : Bld w1.heap.size w1.heap.size (34 :: escL (s.data.toList.take (k + 1))) w5 := by
            rw [HST.out, HE.out]; simpa using hI5
          have hB6 := (hBr.trans hb4).trans hb5
          first | exact ⟨k + 1, by omega, by go_num, hI6, hB6⟩ | ((repeat apply Exists.intro); exact ⟨⟨k + 1, by omega, by go_num, hI6, hB6⟩, rfl⟩)
      · have he : escB s[k] = [s[k]] := by rw [escB, if_neg hc]
        have HE := Lib.hid he
        have h1 : ((s[k].toNat : Int) == 34) = false := beq_eq_false_iff_ne.2 (by omega)
        have h2 : ((s[k].toNat : Int) == 92) = false := beq_eq_false_iff_ne.2 (by omega)
        clear he hc
        go_wp2_with fail
        refine (wb _ _ _ _ s[k] rfl _ hIr (by omega) hsz).mono ?_
        rintro e w5 ⟨rfl, hI5, hb5, -⟩
        go_wp2_with fail
        refine ⟨?_, by simp [intOf]; omega⟩
        have hI6 : Bld w1.heap.size w1.heap.size (34 :: escL (s.data.toList.take (k + 1))) w5 := by
          rw [HST.out, HE.out]; simpa using hI5
        have hB6 := hBr.trans hb5
        first | exact ⟨k + 1, by omega, by go_num, hI6, hB6⟩ | ((repeat apply Exists.intro); exact ⟨⟨k + 1, by omega, by go_num, hI6, hB6⟩, rfl⟩)
    · rw [List.take_of_length_le (by rw [size_len]; omega)] at hIr hln
      go_wp2_with fail
      refine (wb _ _ _ 34 34 rfl _ hIr (by omega) hsz).mono ?_
      rintro e w4 ⟨rfl, hI4, hb4, -⟩
      have hs4 := hb4.size
      go_wp2_with fail
      refine (Tryd.Builder_String_any_k _ _ _ _ hI4 (by omega)).mono ?_
      rintro e w5 ⟨rfl, -, hb5, -⟩
      go_wp2_with fail
      go_ret2
      exact ⟨rfl, below_more hb1 ((hBr.trans hb4).trans hb5)⟩
end Go.Proofs.YtjekdhahbkofbaaDoor
