/-
  The numbers of values are int64s; how long a number's text is.
-/
import Derived.Test.YtfdecbfcddkoiaaGreatDoorMayA
import Derived.Test.YtfdecbfcddkoiaaGreatDoorNumA
namespace Go.Proofs.YtfdecbfcddkoiaaGreatDoor
open Go.RowKit

theorem digits_le : ∀ (k u : Nat), u < 10 ^ (k + 1) → Lib.nDigits u ≤ k + 1
  | 0, u, h => by rw [Lib.nDigits_small (by simpa using h)]; exact Nat.le_refl _
  | k + 1, u, h => by
    by_cases hs : u < 10
    · rw [Lib.nDigits_small hs]; omega
    · rw [Lib.nDigits_big hs]
      have := digits_le k (u / 10) (by rw [Nat.pow_succ] at h; omega)
      omega
theorem itoa_le {n : Int} (h0 : -9223372036854775808 ≤ n) (h1 : n ≤ 9223372036854775807) : (Lib.itoa n).length ≤ 21 := by
  have hl : (Lib.decDigits n.natAbs).length ≤ 20 := by
    rw [Lib.decDigits_length]
    exact Nat.le_trans (digits_le 18 n.natAbs (by omega)) (by decide)
  by_cases h : n < 0
  · rw [Lib.itoa, if_pos h, List.length_cons]; omega
  · rw [Lib.itoa, if_neg h, show n.toNat = n.natAbs by omega]; omega
mutual
/-- All numbers are int64s. -/
def inV : JV → Prop
  | .mk _ n _ _ items => -9223372036854775808 ≤ n ∧ n ≤ 9223372036854775807 ∧ inVs items
def inVs : List JV → Prop
  | [] => True
  | x :: r => inV x ∧ inVs r
end
mutual
theorem inV_of {w : World} : ∀ {V : JV} {v : Value}, ValAt w V v → inV V
  | .mk k n t names items, v, h => by
    rw [ValAt] at h
    obtain ⟨vn, vi, hv, k0, k1, n0, n1, ht, hn, hl, hi⟩ := h
    rw [inV]
    refine ⟨n0, n1, ?_⟩
    rcases hi with ⟨rfl, _⟩ | ⟨b, o, cap, hv, hr⟩
    · rw [inVs]; trivial
    · exact inVs_of hr
theorem inVs_of {w : World} {b : Nat} : ∀ {items : List JV} {o : Nat}, RowAt w b o items → inVs items
  | [], _, _ => by rw [inVs]; trivial
  | x :: r, o, h => by
    rw [RowAt] at h
    obtain ⟨⟨c0, c1, c2, c3, c4, h0, h1, h2, h3, h4, h5⟩, hr⟩ := h
    rw [inVs]
    exact ⟨inV_of h5, inVs_of hr⟩
end
end Go.Proofs.YtfdecbfcddkoiaaGreatDoor
