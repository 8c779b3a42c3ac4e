/-
  The document's Show: it writes the same text as strconv does.
-/
import Derived.Test.YtfdecbfcddkoiaaGreatDoorNumRead
namespace Go.Proofs.YtfdecbfcddkoiaaGreatDoor
open Go.RowKit

theorem conv_one (w : World) (x : Int) : (convert 32 9 (.slice (some ⟨w.heap.size, 0, none⟩) 1 1)).run Tryz.prog (w.alloc (.cells #[.int .u8 x] 5)) = .ok (.string (Go.strOfNums [x])) (w.alloc (.cells #[.int .u8 x] 5)) := by
  refine run_convert_bytes_arg _ 32 5 Tryz.underlying32 Tryz.underlying5 _ 0 1 1 [x] rfl (fun i hi => ?_) _ Tryz.underlying9
  obtain rfl : i = 0 := by omega
  exact cell_one_new _ _ _ 0 _ rfl
theorem tmod_abs (m : Int) : (0 ≤ m ∧ m.tmod 10 = (m.natAbs % 10 : Nat) ∧ m.tdiv 10 = (m.natAbs / 10 : Nat)) ∨ (m < 0 ∧ m.tmod 10 = -((m.natAbs % 10 : Nat) : Int) ∧ m.tdiv 10 = -((m.natAbs / 10 : Nat) : Int)) := by
  by_cases h : 0 ≤ m
  · left
    obtain ⟨n, rfl⟩ := Int.eq_ofNat_of_zero_le h
    refine ⟨h, ?_, ?_⟩
    · rw [Int.tmod_eq_emod_of_nonneg h]; simp
    · rw [Int.tdiv_eq_ediv_of_nonneg h]; simp
  · right
    obtain ⟨n, hn⟩ := Int.eq_ofNat_of_zero_le (show 0 ≤ -m by omega)
    obtain rfl : m = -(n : Int) := by omega
    refine ⟨by omega, ?_, ?_⟩
    · rw [Int.neg_tmod, Int.tmod_eq_emod_of_nonneg (by omega)]; simp
    · rw [Int.neg_tdiv, Int.tdiv_eq_ediv_of_nonneg (by omega)]; simp
theorem tmod_bd (m : Int) : -9 ≤ m.tmod 10 ∧ m.tmod 10 ≤ 9 := by
  rcases tmod_abs m with ⟨_, h, _⟩ | ⟨_, h, _⟩ <;> rw [h] <;> omega
theorem nd_le : ∀ (k u : Nat), u < 10 ^ (k + 1) → Lib.nDigits u ≤ k + 1
  | 0, u, h => by rw [Lib.nDigits_small (by simpa using h)]; exact Nat.le_refl _
  | k + 1, u, h => by
    by_cases hs : u < 10
    · rw [Lib.nDigits_small hs]; omega
    · rw [Lib.nDigits_big hs]
      have := nd_le k (u / 10) (by rw [Nat.pow_succ] at h; omega)
      omega

/-- How far the document's Show has come: m is left of N, u has been written. -/
def ShowInv (N m : Int) (u : List UInt8) : Prop :=
  (N < 0 → m ≤ 0) ∧ (0 ≤ N → 0 ≤ m) ∧ ((u = [] ∧ m = N) ∨ (u ≠ [] ∧ ((m = 0 ∧ u = Lib.decDigits N.natAbs) ∨ (m ≠ 0 ∧ Lib.decDigits m.natAbs ++ u = Lib.decDigits N.natAbs))))

/-- The digit that a round writes. -/
def digitOf (m : Int) : UInt8 := UInt8.ofNat (48 + m.natAbs % 10)
theorem showInv_step {N m : Int} {u : List UInt8} (h : ShowInv N m u) (hc : u = [] ∨ m ≠ 0) : ShowInv N (m.tdiv 10) (digitOf m :: u) := by
  obtain ⟨s1, s2, h⟩ := h
  have hcat : Lib.decDigits m.natAbs ++ u = Lib.decDigits N.natAbs := by
    rcases h with ⟨rfl, rfl⟩ | ⟨hu, ⟨rfl, h⟩ | ⟨_, h⟩⟩
    · simp
    · rcases hc with h' | h'
      · exact absurd h' hu
      · exact absurd rfl h'
    · exact h
  have ha : (m.tdiv 10).natAbs = m.natAbs / 10 := by
    rcases tmod_abs m with ⟨_, _, h⟩ | ⟨_, _, h⟩ <;> rw [h] <;> omega
  refine ⟨fun hn => ?_, fun hn => ?_, Or.inr ⟨by simp, ?_⟩⟩
  · have := s1 hn
    rcases tmod_abs m with ⟨_, _, h⟩ | ⟨_, _, h⟩ <;> rw [h] <;> omega
  · have := s2 hn
    rcases tmod_abs m with ⟨_, _, h⟩ | ⟨_, _, h⟩ <;> rw [h] <;> omega
  · by_cases hs : m.natAbs < 10
    · left
      refine ⟨by omega, ?_⟩
      rw [Lib.decDigits_one hs] at hcat
      rw [← hcat, digitOf, Nat.mod_eq_of_lt hs]; rfl
    · right
      refine ⟨by omega, ?_⟩
      rw [Lib.decDigits, dif_neg hs] at hcat
      rw [ha, ← hcat, digitOf, List.append_assoc]; rfl
theorem showInv_len {N m : Int} {u : List UInt8} (h0 : -9223372036854775808 ≤ N) (h1 : N ≤ 9223372036854775807) (h : ShowInv N m u) : u.length ≤ 20 := by
  have hl : (Lib.decDigits N.natAbs).length ≤ 20 := by
    rw [Lib.decDigits_length]
    exact Nat.le_trans (nd_le 18 N.natAbs (by omega)) (by decide)
  obtain ⟨_, _, h⟩ := h
  rcases h with ⟨rfl, rfl⟩ | ⟨hu, ⟨rfl, rfl⟩ | ⟨_, h⟩⟩
  · simp
  · exact hl
  · rw [← h, List.length_append] at hl; omega
theorem showInv_end {N m : Int} {u : List UInt8} (h : ShowInv N m u) (hu : u ≠ []) (hm : m = 0) : Lib.itoa N = if N < 0 then 45 :: u else u := by
  obtain ⟨_, _, h⟩ := h
  have : u = Lib.decDigits N.natAbs := by
    rcases h with ⟨h, _⟩ | ⟨_, ⟨_, h⟩ | ⟨h, _⟩⟩
    · exact absurd h hu
    · exact h
    · exact absurd hm h
  rw [Lib.itoa, this]
  by_cases hn : N < 0
  · rw [if_pos hn, if_pos hn]
  · rw [if_neg hn, if_neg hn, show N.toNat = N.natAbs by omega]
theorem digit_neg {m : Int} {u : List UInt8} (h : m.tmod 10 < 0) : strOfNums [48 + -m.tmod 10] ++ ⟨u.toArray⟩ = ⟨(digitOf m :: u).toArray⟩ := by
  have e : 48 + -m.tmod 10 = ((48 + m.natAbs % 10 : Nat) : Int) := by
    rcases tmod_abs m with ⟨_, h', _⟩ | ⟨_, h', _⟩ <;> rw [h'] at h ⊢ <;> omega
  rw [e]; rfl
theorem digit_pos {m : Int} {u : List UInt8} (h : 0 ≤ m.tmod 10) : strOfNums [48 + m.tmod 10] ++ ⟨u.toArray⟩ = ⟨(digitOf m :: u).toArray⟩ := by
  have e : 48 + m.tmod 10 = ((48 + m.natAbs % 10 : Nat) : Int) := by
    rcases tmod_abs m with ⟨_, h', _⟩ | ⟨_, h', _⟩ <;> rw [h'] at h ⊢ <;> omega
  rw [e]; rfl
theorem tdiv_bd {m : Int} (h0 : -9223372036854775808 ≤ m) (h1 : m ≤ 9223372036854775807) : -9223372036854775808 ≤ m.tdiv 10 ∧ m.tdiv 10 ≤ 9223372036854775807 ∧ ((m.tdiv 10).natAbs < m.natAbs ∨ m.tdiv 10 = 0) := by
  rcases tmod_abs m with ⟨_, _, h⟩ | ⟨_, _, h⟩ <;> rw [h] <;> omega

set_option maxRecDepth 100000 in
set_option maxHeartbeats 400000 in
theorem refShow_any (N : Int) (h0 : -9223372036854775808 ≤ N) (h1 : N ≤ 9223372036854775807) (w : World) (r : List UInt8) (hr : Hid (Lib.itoa N = r)) :
    Calls Tryz.prog 67 #[.int .i64 N] w fun e w' => e = .returned (.string ⟨r.toArray⟩) ∧ Below w.heap.size w w' := by
  have hcv := conv_one
  have hz : ∀ x : Int, (strOfNums [x]).size = 1 := fun _ => rfl
  go_enter Tryz.func67, Tryz.ntmps67
  go_wp2
  go_loopw [0, 3, 5] (fun n s i wr => ∃ (m : Int) (u : List UInt8), n = .int .i64 m ∧ s = .string ⟨u.toArray⟩ ∧ i = .int .i64 (u.length : Int) ∧ -9223372036854775808 ≤ m ∧ m ≤ 9223372036854775807 ∧ u.length ≤ 20 ∧ ShowInv N m u ∧ Below w.heap.size w wr) (fun n _ i _ => (intOf n).natAbs + (1 - (intOf i).toNat))
  case atStart => exact ⟨N, [], rfl, rfl, rfl, h0, h1, by simp, ⟨by omega, by omega, Or.inl ⟨rfl, rfl⟩⟩, Below.refl _ _⟩
  case round =>
    obtain ⟨m, u, rfl, rfl, rfl, hm0, hm1, hu, hinv, hB⟩ := hrel
    have hs := hB.size
    obtain ⟨hd1, hd2⟩ := tmod_bd m
    by_cases hul : u.length = 0
    · obtain rfl := List.length_eq_zero_iff.1 hul
      clear hul
      have hst := showInv_step hinv (Or.inl rfl)
      obtain ⟨b1, b2, b3⟩ := tdiv_bd hm0 hm1
      go_wp2
      · refine ⟨⟨_, digitOf m :: [], rfl, congrArg Value.string (digit_neg (by assumption)), rfl, b1, b2, by simp, hst, hB.alloc hs _⟩, ?_⟩
        simp only [intOf, List.length_nil]; omega
      · refine ⟨⟨_, digitOf m :: [], rfl, congrArg Value.string (digit_pos (by assumption)), rfl, b1, b2, by simp, hst, hB.alloc hs _⟩, ?_⟩
        simp only [intOf, List.length_nil]; omega
    · have hu0 : ((u.length : Int) == 0) = false := beq_eq_false_iff_ne.2 (by omega)
      by_cases hm : m = 0
      · have hmb : (m != 0) = false := by simp [hm]
        have he := showInv_end hinv (by intro h; exact hul (by rw [h]; rfl)) hm
        have HE := Lib.hid (he.symm.trans hr.out)
        clear hm he
        by_cases hN : N < 0
        · go_wp2
          go_ret
          refine ⟨?_, hB⟩
          rw [← HE.out, if_pos hN]; rfl
        · go_wp2
          go_ret
          refine ⟨?_, hB⟩
          rw [← HE.out, if_neg (by omega)]; rfl
      · have hmb : (m != 0) = true := by simp [hm]
        have hst := showInv_step hinv (Or.inr hm)
        have hl := showInv_len h0 h1 hst
        obtain ⟨b1, b2, b3⟩ := tdiv_bd hm0 hm1
        have HM := Lib.hid hm
        clear hm
        go_wp2
        · refine ⟨⟨_, digitOf m :: u, rfl, congrArg Value.string (digit_neg (by assumption)), by simp, b1, b2, hl, hst, hB.alloc hs _⟩, ?_⟩
          have := HM.out
          simp only [intOf]; omega
        · refine ⟨⟨_, digitOf m :: u, rfl, congrArg Value.string (digit_pos (by assumption)), by simp, b1, b2, hl, hst, hB.alloc hs _⟩, ?_⟩
          have := HM.out
          simp only [intOf]; omega
end Go.Proofs.YtfdecbfcddkoiaaGreatDoor
