/-
  The walk of the law LexNext.
-/
import Derived.Test.YtkflnbmbkilicaaDoorLexAwake
import Derived.Test.YtkflnbmbkilicaaDoorRefNext
import Derived.Laws.StructEq
namespace Go.Proofs.YtkflnbmbkilicaaDoor
open Go.RowKit

set_option maxRecDepth 100000 in
set_option maxHeartbeats 8000000 in
theorem lexNext_walk (s : ByteArray) (at_ : Int) (w : World) (w0 : s.size ≤ maxLen) (_wa : (Lit.int .i64 at_).wf = true) (henv : NumEnv w) :
    Calls Tryd.prog 4 #[.string s, .int .i64 at_] w fun e w' => e = .returned (.bool true) ∧ Below w.heap.size w w' := by
  unfold maxLen at w0
  by_cases hl : 3000 < s.size
  · have hd : decide (3000 < (s.size : Int)) = true := by simp; omega
    go_enter Tryd.func4, Tryd.ntmps4
    go_wp2_with fail
    refine (awake7_any _ henv).mono ?_
    rintro e w3 ⟨rfl, hb3⟩
    go_wp2_with fail
    go_ret
    exact ⟨rfl, hb3⟩
  · have hd : decide (3000 < (s.size : Int)) = false := by simp; omega
    have hs : s.size ≤ 281474976710656 := by omega
    obtain ⟨k, x, z, n, t, er, HA, HB⟩ : ∃ (k x z n : Int) (t : ByteArray) (er : Int),
        Hid (∀ W, NumEnv W → Calls Tryd.prog 14 #[.string s, .int .i64 at_] W fun e w' => e = .returned (.tuple #[.agg #[.int .u8 k, .int .i64 x, .int .i64 z, .int .i64 n, .string t], .int .i64 er]) ∧ Below W.heap.size W w') ∧
        Hid (∀ W, Calls Tryd.prog 15 #[.string s, .int .i64 at_] W fun e w' => e = .returned (.tuple #[.agg #[.int .u8 k, .int .i64 x, .int .i64 z, .int .i64 n, .string t], .int .i64 er]) ∧ Below W.heap.size W w') := by
      by_cases ho : at_ < 0 ∨ (s.size : Int) < at_
      · exact ⟨0, 0, 0, 0, ⟨#[]⟩, 1, fun W _ => lexNext_out s at_ W ho, fun W => refNext7_out s at_ W ho⟩
      · obtain ⟨a, rfl⟩ : ∃ a : Nat, at_ = (a : Int) := ⟨at_.toNat, by omega⟩
        have ha : a ≤ s.size := by omega
        obtain ⟨k, x, z, n, t, er, hr⟩ : ∃ k x z n t er, resV (nextM s.data.toList a) = (k, x, z, n, t, er) := ⟨_, _, _, _, _, _, rfl⟩
        exact ⟨k, x, z, n, t, er, fun W hE => lexNext_in s a W hs ha hE k x z n t er hr, fun W => refNext7_in s a W hs ha k x z n t er hr⟩
    clear hl
    go_enter Tryd.func4, Tryd.ntmps4
    go_wp2_with fail
    refine (HA.out _ henv).mono ?_
    rintro e w3 ⟨rfl, hb3⟩
    go_wp2_with fail
    refine (HB.out _).mono ?_
    rintro e w4 ⟨rfl, hb4⟩
    have hsz : w3.heap.size < w4.heap.size := by have := hb4.size; simp at this; omega
    obtain ⟨hcc, hff⟩ := bcell hb4
    have hB4 : Below w.heap.size w w4 := below_more (bel_alloc hb3 _) hb4
    have henv5 := henv.below (bel_alloc hB4 (.cells #[.int .u8 k, .int .i64 x, .int .i64 z, .int .i64 n, .string t] 34))
    go_wp2_with fail
    refine (awake7_any _ henv5).mono ?_
    rintro e w6 ⟨rfl, hb6⟩
    go_wp2_with fail
    go_ret
    exact ⟨rfl, below_more (bel_alloc hB4 _) hb6⟩
end Go.Proofs.YtkflnbmbkilicaaDoor
