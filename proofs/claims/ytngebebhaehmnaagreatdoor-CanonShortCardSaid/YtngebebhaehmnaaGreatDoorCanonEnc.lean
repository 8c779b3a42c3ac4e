/-
  canon.Encode at any value.
-/
import Derived.Test.YtngebebhaehmnaaGreatDoorCanonWalk
import Derived.Test.YtngebebhaehmnaaGreatDoorFormIn
namespace Go.Proofs.YtngebebhaehmnaaGreatDoor
open Go.RowKit

/-- How long texts are together. -/
def sumL (l : List (List UInt8)) : Nat := (l.map List.length).sum
theorem joinC_sum (l : List (List UInt8)) : (joinC l).length ≤ sumL l + l.length := by
  induction l with
  | nil => simp [joinC]
  | cons x r ih =>
    cases r with
    | nil => simp [joinC, sumL]
    | cons y r =>
      simp only [joinC, sumL, List.map_cons, List.sum_cons, List.length_append, List.length_cons] at ih ⊢
      omega
theorem zip_sum : ∀ (names : List ByteArray) (fs : List (List UInt8)), (∀ s ∈ names, writ s = true) → sumL ((names.zip fs).map fun p => quoteL p.1.data.toList ++ 58 :: p.2) ≤ sumL fs + 8195 * fs.length
  | [], fs, _ => by simp [sumL]
  | s :: names, [], _ => by simp [sumL]
  | s :: names, f :: fs, h => by
    have ih := zip_sum names fs (fun x hx => h x (List.mem_cons_of_mem _ hx))
    have hq := quote_len (h s (List.mem_cons_self))
    simp only [List.zip_cons_cons, List.map_cons, sumL, List.sum_cons, List.length_append, List.length_cons] at ih ⊢
    omega
mutual
theorem form_len : ∀ (V : JV) (d : Nat) (l : Int), inV V → (mayV V d l).1 = true → ((formV V).length : Int) + 10000 ≤ 20000 * (l - (mayV V d l).2)
  | .mk k n t names items, d, l, hin, h => by
    rw [inV] at hin
    have hg := good_of_may _ _ _ h
    have hp : properB (.mk k n t names items) = true := by rw [goodV_eq, Bool.and_eq_true] at hg; exact hg.1
    rw [mayV] at h ⊢
    split at h
    · cases h
    · rename_i h1
      rw [if_neg h1]
      split at h
      · rename_i h2
        rw [if_pos h2, formV]
        have e1 : (l : Int) - (l - 1) = 1 := by omega
        simp only [e1]
        by_cases k1 : k = 1
        · rw [if_pos k1]; split <;> simp
        rw [if_neg k1]
        by_cases k2 : k = 2
        · rw [if_pos k2]
          have := itoa_le hin.1 hin.2.1
          omega
        rw [if_neg k2]
        by_cases k3 : k = 3
        · rw [if_pos k3]
          have := quote_len (proper_text hp k3)
          simp only [JV.t] at this
          omega
        rw [if_neg k3, if_neg h2.1, if_neg h2.2]
        simp
      · rename_i h2
        rw [if_neg h2]
        split at h
        · cases h
        · rename_i h3
          rw [if_neg h3]
          obtain ⟨hs, hlen⟩ := forms_len items (d - 1) (l - 1) hin.2.2 h
          have hk : k = 4 ∨ k = 5 := by omega
          rw [formV]
          rw [if_neg (by omega), if_neg (by omega), if_neg (by omega)]
          rcases hk with hk | hk
          · rw [if_pos hk]
            have := joinC_sum (formVs items)
            rw [formVs_map, List.length_map] at this
            rw [formVs_map] at hs
            simp only [List.length_cons, List.length_append, List.length_nil, formVs_map]
            omega
          · rw [if_neg (by omega), if_pos hk]
            obtain ⟨hnn, _, hw⟩ := proper_obj hp hk
            simp only [JV.names, JV.items] at hnn hw
            have h5 := zip_sum names (formVs items) (fun s hs => List.all_eq_true.1 hw s hs)
            have h6 := joinC_sum ((names.zip (formVs items)).map fun p => quoteL p.1.data.toList ++ 58 :: p.2)
            rw [List.length_map, List.length_zip] at h6
            have h7 : (formVs items).length = items.length := by rw [formVs_map, List.length_map]
            rw [h7] at h5 h6
            rw [hnn, Nat.min_self] at h6
            simp only [List.length_cons, List.length_append, List.length_nil]
            omega
theorem forms_len : ∀ (items : List JV) (d : Nat) (l : Int), inVs items → (mayL items d l).1 = true → (sumL (formVs items) : Int) + 10000 * items.length ≤ 20000 * (l - (mayL items d l).2) ∧ True
  | [], d, l, _, _ => by rw [mayL]; simp [formVs, sumL]
  | x :: r, d, l, hin, h => by
    rw [inVs] at hin
    rw [mayL] at h ⊢
    split at h
    · rename_i hx
      rw [if_pos hx]
      have h1 := form_len x d l hin.1 hx
      have h2 := (forms_len r d _ hin.2 h).1
      refine ⟨?_, trivial⟩
      simp only [formVs, sumL, List.map_cons, List.sum_cons, List.length_cons] at h2 ⊢
      omega
    · cases h
end
theorem form_small {V : JV} (hin : inV V) (h : mayB V = true) : (formV V).length ≤ 200000000 := by
  have h1 := form_len V 12 8192 hin h
  have h2 := (mayV_bd V 12 8192 (by omega) (by omega)).2.2 h
  omega
end Go.Proofs.YtngebebhaehmnaaGreatDoor
