/-
  read.Read and quote.Quote, whatever they tell; legatelaw09.low.
-/
import Derived.Test.YtngebebhaehmnaaGreatDoorReadRead
import Derived.Test.YtngebebhaehmnaaGreatDoorMayA
import Derived.Test.YtngebebhaehmnaaGreatDoorCanonBackP
namespace Go.Proofs.YtngebebhaehmnaaGreatDoor
open Go.RowKit

/-- read.Read, whatever it tells. -/
theorem read_some (s : ByteArray) (w : World) (hs : s.size ≤ 9223372036854775807) (henv : NumEnv w) :
    Calls Tryz.prog 12 #[.string s] w fun e w' => ∃ (x : VC) (p er : Int), e = .returned (.tuple #[x.val, .int .i64 p, .int .i64 er]) ∧ Below w.heap.size w w' ∧ (er = 0 → ∃ V ms c, readV s.data.toList = .ok V ms c ∧ NewV w.heap.size w' V x.val) ∧ (er ≠ 0 → ∃ q : Nat, p = q ∧ readV s.data.toList = .bad q er ∧ x.val = zeroV) := by
  obtain ⟨R, hR⟩ : ∃ R, readV s.data.toList = R := ⟨_, rfl⟩
  have h := read_any s w hs henv R (Lib.hid hR)
  cases R with
  | bad p er =>
    refine h.mono ?_
    rintro e w' ⟨hb, rfl, hne⟩
    exact ⟨⟨0, 0, ⟨#[]⟩, none, 0, 0, none, 0, 0⟩, p, er, rfl, hb, fun h0 => absurd h0 hne, fun _ => ⟨p, rfl, hR, rfl⟩⟩
  | ok V ms c =>
    refine h.mono ?_
    rintro e w' ⟨hb, x, rfl, hnew⟩
    exact ⟨x, 0, 0, rfl, hb, fun _ => ⟨V, ms, c, hR, hnew⟩, fun h0 => absurd rfl h0⟩
set_option maxRecDepth 100000 in
set_option maxHeartbeats 1000000 in
theorem Quote_bad (s : ByteArray) (w : World) (hs : s.size ≤ 4096) (hu : utfOK s = false) :
    Calls Tryz.prog 22 #[.string s] w fun e w' => e = .returned (.tuple #[.string ⟨#[]⟩, .int .i64 12]) ∧ Below w.heap.size w w' := by
  have HU := Lib.hid hu
  clear hu
  go_enter Tryz.func22, Tryz.ntmps22
  go_wp2_with fail
  refine (utfValid_any s _ (by unfold maxLen; omega)).mono ?_
  rintro e w1 ⟨rfl, hb1⟩
  rw [HU.out]
  go_wp2_with fail
  go_ret2
  exact ⟨rfl, hb1⟩
/-- quote.Quote of what is no more than 4096 bytes, whatever it tells. -/
theorem quote_some (s : ByteArray) (w : World) (hs : s.size ≤ 4096) :
    Calls Tryz.prog 22 #[.string s] w fun e w' => ∃ (t : ByteArray) (er : Int), e = .returned (.tuple #[.string t, .int .i64 er]) ∧ Below w.heap.size w w' ∧ (er = 0 → writ s = true ∧ t = ⟨(quoteL s.data.toList).toArray⟩) := by
  cases hu : utfOK s with
  | true =>
    have hw : writ s = true := by unfold writ; rw [hu]; simpa using hs
    refine (Quote_any s w hw).mono ?_
    rintro e w' ⟨rfl, hb⟩
    exact ⟨_, _, rfl, hb, fun _ => ⟨hw, rfl⟩⟩
  | false =>
    refine (Quote_bad s w hs hu).mono ?_
    rintro e w' ⟨rfl, hb⟩
    exact ⟨_, _, rfl, hb, fun h => absurd h (by decide)⟩
theorem low9_take {s : ByteArray} {k : Nat} (h : k < s.size) (ha : lowL (s.data.toList.take k) = false) (hc : 32 ≤ s[k].toNat) : lowL (s.data.toList.take (k + 1)) = false := by
  rw [take_snoc s k h]
  unfold lowL at ha ⊢
  rw [List.any_append, ha]
  simp
  omega
theorem low9_at {s : ByteArray} {k : Nat} (h : k < s.size) (hc : s[k].toNat < 32) : lowL s.data.toList = true := by
  unfold lowL
  rw [List.any_eq_true]
  exact ⟨s[k], mem_at s k h, by simpa using hc⟩
set_option maxRecDepth 100000 in
set_option maxHeartbeats 4000000 in
theorem low9_any (s : ByteArray) (w : World) (hs : s.size ≤ 4096) :
    Calls Tryz.prog 21 #[.string s] w fun e w' => e = .returned (.bool (lowL s.data.toList)) ∧ Below w.heap.size w w' := by
  go_enter Tryz.func21, Tryz.ntmps21
  go_wp2_with fail
  go_loopw [3] (fun i wr => ∃ k : Nat, k ≤ s.size ∧ i = .int .i64 k ∧ Hid (lowL (s.data.toList.take k) = false) ∧ Below w.heap.size w wr) (fun i _ => s.size - (intOf i).toNat)
  case atStart => exact ⟨0, by omega, rfl, by simp [Hid, lowL], Below.refl _ _⟩
  case round =>
    obtain ⟨k, hk, rfl, HL, hbr⟩ := hrel
    by_cases hlt : k < s.size
    · have hk1 : (k : Int) < (s.size : Int) := by omega
      by_cases hc : s[k].toNat < 32
      · have hci : (s[k].toNat : Int) < 32 := by omega
        go_wp2_with fail
        go_ret
        exact ⟨ret_bool (low9_at hlt hc).symm, hbr⟩
      · have hci : ¬ (s[k].toNat : Int) < 32 := by omega
        go_wp2_with fail
        refine ⟨⟨k + 1, by omega, by go_num, low9_take hlt HL.out (by omega), hbr⟩, by simp [intOf]; omega⟩
    · have hall : lowL s.data.toList = false := by
        have := HL.out
        rwa [List.take_of_length_le (by rw [size_len]; omega)] at this
      have HALL := Lib.hid hall
      clear hall HL
      go_wp2_with fail
      go_ret
      exact ⟨ret_bool HALL.out.symm, hbr⟩
end Go.Proofs.YtngebebhaehmnaaGreatDoor
