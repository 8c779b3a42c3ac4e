/-
  The numbers of values are int64s; how long a number's text is.
  canon.Encode at any value.
-/
import Derived.Test.YtmggmpigpiaagaaGreatDoorSignP
import Derived.Test.YtmggmpigpiaagaaGreatDoorValA
import Derived.Test.YtmggmpigpiaagaaGreatDoorCanonWalk
namespace Go.Proofs.YtmggmpigpiaagaaGreatDoor
section
open Go.RowKit
theorem digits_le : ∀ (k u : Nat), u < 10 ^ (k + 1) → Lib.nDigits u ≤ k + 1
 | 0, u, h => by rw [Lib.nDigits_small (by simpa using h)]; exact Nat.le_refl _
 | k + 1, u, h => by
   by_cases hs : u < 10
   · rw [Lib.nDigits_small hs]; omega
   · rw [Lib.nDigits_big hs]
     have := digits_le k (u / 10) (by rw [Nat.pow_succ] at h; omega)
     omega
theorem itoa_le {n : Int} (h0 : -9223372036854775808 ≤ n) (h1 : n ≤ 9223372036854775807) : (Lib.itoa n).length ≤ 21 := by
 have hl : (Lib.decDigits n.natAbs).length ≤ 20 := by
   rw [Lib.decDigits_length]
   exact Nat.le_trans (digits_le 18 n.natAbs (by omega)) (by decide)
 by_cases h : n < 0
 · rw [Lib.itoa, if_pos h, List.length_cons]; omega
 · rw [Lib.itoa, if_neg h, show n.toNat = n.natAbs by omega]; omega
mutual
def inV : JV → Prop
 | .mk _ n _ _ items => -9223372036854775808 ≤ n ∧ n ≤ 9223372036854775807 ∧ inVs items
def inVs : List JV → Prop
 | [] => True
 | x :: r => inV x ∧ inVs r
end
mutual
theorem inV_of {w : World} : ∀ {V : JV} {v : Value}, ValAt w V v → inV V
 | .mk k n t names items, v, h => by
   rw [ValAt] at h
   obtain ⟨vn, vi, hv, k0, k1, n0, n1, ht, hn, hl, hi⟩ := h
   rw [inV]
   refine ⟨n0, n1, ?_⟩
   rcases hi with ⟨rfl, _⟩ | ⟨b, o, cap, hv, hr⟩
   · rw [inVs]; trivial
   · exact inVs_of hr
theorem inVs_of {w : World} {b : Nat} : ∀ {items : List JV} {o : Nat}, RowAt w b o items → inVs items
 | [], _, _ => by rw [inVs]; trivial
 | x :: r, o, h => by
   rw [RowAt] at h
   obtain ⟨⟨c0, c1, c2, c3, c4, h0, h1, h2, h3, h4, h5⟩, hr⟩ := h
   rw [inVs]
   exact ⟨inV_of h5, inVs_of hr⟩
end
end

section
open Go.RowKit
def sumL (l : List (List UInt8)) : Nat := (l.map List.length).sum
theorem joinC_sum (l : List (List UInt8)) : (joinC l).length ≤ sumL l + l.length := by
 induction l with
 | nil => simp [joinC]
 | cons x r ih =>
   cases r with
   | nil => simp [joinC, sumL]
   | cons y r =>
     simp only [joinC, sumL, List.map_cons, List.sum_cons, List.length_append, List.length_cons] at ih ⊢
     omega
theorem zip_sum : ∀ (names : List ByteArray) (fs : List (List UInt8)), (∀ s ∈ names, writ s = true) → sumL ((names.zip fs).map fun p => quoteL p.1.data.toList ++ 58 :: p.2) ≤ sumL fs + 8195 * fs.length
 | [], fs, _ => by simp [sumL]
 | s :: names, [], _ => by simp [sumL]
 | s :: names, f :: fs, h => by
   have ih := zip_sum names fs (fun x hx => h x (List.mem_cons_of_mem _ hx))
   have hq := quote_len (h s (List.mem_cons_self))
   simp only [List.zip_cons_cons, List.map_cons, sumL, List.sum_cons, List.length_append, List.length_cons] at ih ⊢
   omega
mutual
theorem form_len : ∀ (V : JV) (d : Nat) (l : Int), inV V → (mayV V d l).1 = true → ((formV V).length : Int) + 10000 ≤ 20000 * (l - (mayV V d l).2)
 | .mk k n t names items, d, l, hin, h => by
   rw [inV] at hin
   have hg := good_of_may _ _ _ h
   have hp : properB (.mk k n t names items) = true := by rw [goodV_eq, Bool.and_eq_true] at hg; exact hg.1
   rw [mayV] at h ⊢
   split at h
   · cases h
   · rename_i h1
     rw [if_neg h1]
     split at h
     · rename_i h2
       rw [if_pos h2, formV]
       have e1 : (l : Int) - (l - 1) = 1 := by omega
       simp only [e1]
       by_cases k1 : k = 1
       · rw [if_pos k1]; split <;> simp
       rw [if_neg k1]
       by_cases k2 : k = 2
       · rw [if_pos k2]
         have := itoa_le hin.1 hin.2.1
         omega
       rw [if_neg k2]
       by_cases k3 : k = 3
       · rw [if_pos k3]
         have := quote_len (proper_text hp k3)
         simp only [JV.t] at this
         omega
       rw [if_neg k3, if_neg h2.1, if_neg h2.2]
       simp
     · rename_i h2
       rw [if_neg h2]
       split at h
       · cases h
       · rename_i h3
         rw [if_neg h3]
         obtain ⟨hs, hlen⟩ := forms_len items (d - 1) (l - 1) hin.2.2 h
         have hk : k = 4 ∨ k = 5 := by omega
         rw [formV]
         rw [if_neg (by omega), if_neg (by omega), if_neg (by omega)]
         rcases hk with hk | hk
         · rw [if_pos hk]
           have := joinC_sum (formVs items)
           rw [formVs_map, List.length_map] at this
           rw [formVs_map] at hs
           simp only [List.length_cons, List.length_append, List.length_nil, formVs_map]
           omega
         · rw [if_neg (by omega), if_pos hk]
           obtain ⟨hnn, _, hw⟩ := proper_obj hp hk
           simp only [JV.names, JV.items] at hnn hw
           have h5 := zip_sum names (formVs items) (fun s hs => List.all_eq_true.1 hw s hs)
           have h6 := joinC_sum ((names.zip (formVs items)).map fun p => quoteL p.1.data.toList ++ 58 :: p.2)
           rw [List.length_map, List.length_zip] at h6
           have h7 : (formVs items).length = items.length := by rw [formVs_map, List.length_map]
           rw [h7] at h5 h6
           rw [hnn, Nat.min_self] at h6
           simp only [List.length_cons, List.length_append, List.length_nil]
           omega
theorem forms_len : ∀ (items : List JV) (d : Nat) (l : Int), inVs items → (mayL items d l).1 = true → (sumL (formVs items) : Int) + 10000 * items.length ≤ 20000 * (l - (mayL items d l).2) ∧ True
 | [], d, l, _, _ => by rw [mayL]; simp [formVs, sumL]
 | x :: r, d, l, hin, h => by
   rw [inVs] at hin
   rw [mayL] at h ⊢
   split at h
   · rename_i hx
     rw [if_pos hx]
     have h1 := form_len x d l hin.1 hx
     have h2 := (forms_len r d _ hin.2 h).1
     refine ⟨?_, trivial⟩
     simp only [formVs, sumL, List.map_cons, List.sum_cons, List.length_cons] at h2 ⊢
     omega
   · cases h
end
theorem form_small {V : JV} (hin : inV V) (h : mayB V = true) : (formV V).length ≤ 200000000 := by
 have h1 := form_len V 12 8192 hin h
 have h2 := (mayV_bd V 12 8192 (by omega) (by omega)).2.2 h
 omega
end
end Go.Proofs.YtmggmpigpiaagaaGreatDoor
