/-
  The canonical form of a value, as plain lists of bytes.
-/
import Derived.Test.YtjekdhahbkofbaaDoorValMay2
import Derived.Test.YtjekdhahbkofbaaDoorQuote
namespace Go.Proofs.YtjekdhahbkofbaaDoor
open Go.RowKit

/-- Texts with a comma between them. -/
def joinC : List (List UInt8) → List UInt8
  | [] => []
  | [x] => x
  | x :: y :: r => x ++ 44 :: joinC (y :: r)
mutual
/-- A value's form. -/
def formV : JV → List UInt8
  | .mk k n t names items =>
    if k = 1 then (if n = 1 then [116, 114, 117, 101] else [102, 97, 108, 115, 101])
    else if k = 2 then Lib.itoa n
    else if k = 3 then quoteL t.data.toList
    else if k = 4 then 91 :: (joinC (formVs items) ++ [93])
    else if k = 5 then 123 :: (joinC ((names.zip (formVs items)).map fun p => quoteL p.1.data.toList ++ 58 :: p.2) ++ [125])
    else []
def formVs : List JV → List (List UInt8)
  | [] => []
  | x :: r => formV x :: formVs r
end
theorem formV_eq (V : JV) : formV V = if V.k = 1 then (if V.n = 1 then [116, 114, 117, 101] else [102, 97, 108, 115, 101]) else if V.k = 2 then Lib.itoa V.n else if V.k = 3 then quoteL V.t.data.toList else if V.k = 4 then 91 :: (joinC (formVs V.items) ++ [93]) else if V.k = 5 then 123 :: (joinC ((V.names.zip (formVs V.items)).map fun p => quoteL p.1.data.toList ++ 58 :: p.2) ++ [125]) else [] := by
  cases V; rw [formV]; rfl
theorem formVs_map (l : List JV) : formVs l = l.map formV := by
  induction l with
  | nil => rfl
  | cons x r ih => rw [formVs, ih]; rfl
theorem joinC_snoc (xs : List (List UInt8)) (y : List UInt8) : joinC (xs ++ [y]) = if xs = [] then y else joinC xs ++ 44 :: y := by
  induction xs with
  | nil => simp [joinC]
  | cons x r ih =>
    cases r with
    | nil => simp [joinC]
    | cons z r =>
      simp only [List.cons_append, joinC] at ih ⊢
      rw [ih]; simp
theorem joinC_len (xs ys : List (List UInt8)) : (joinC xs).length ≤ (joinC (xs ++ ys)).length := by
  induction xs with
  | nil => simp [joinC]
  | cons x r ih =>
    cases r with
    | nil => cases ys <;> simp [joinC]
    | cons z r =>
      simp only [List.cons_append, joinC, List.length_append, List.length_cons] at ih ⊢
      omega
/-- One text more, at a place. -/
theorem joinC_step {xs : List (List UInt8)} {j : Nat} {y : List UInt8} (h : xs[j]? = some y) : joinC (xs.take (j + 1)) = if j = 0 then y else joinC (xs.take j) ++ 44 :: y := by
  obtain ⟨hj, -⟩ := List.getElem?_eq_some_iff.1 h
  rw [List.take_add_one, h]
  show joinC (xs.take j ++ [y]) = _
  rw [joinC_snoc]
  by_cases h0 : j = 0
  · subst h0; simp
  · rw [if_neg (by rw [List.take_eq_nil_iff]; rintro (e | e); exact h0 e; subst e; simp at hj), if_neg h0]
theorem joinC_take (xs : List (List UInt8)) (j : Nat) : (joinC (xs.take j)).length ≤ (joinC xs).length := by
  have := joinC_len (xs.take j) (xs.drop j)
  rwa [List.take_append_drop] at this

mutual
/-- A value all of whose parts are proper. -/
def goodV : JV → Bool
  | .mk k n t names items => properB (.mk k n t names items) && (if k = 4 ∨ k = 5 then goodVs items else true)
def goodVs : List JV → Bool
  | [] => true
  | x :: r => goodV x && goodVs r
end
theorem goodV_eq (V : JV) : goodV V = (properB V && (if V.k = 4 ∨ V.k = 5 then goodVs V.items else true)) := by cases V; rw [goodV]; rfl
theorem goodVs_mem : ∀ {l : List JV}, goodVs l = true → ∀ x ∈ l, goodV x = true
  | y :: r, h, x, hx => by
    rw [goodVs, Bool.and_eq_true] at h
    rcases List.mem_cons.1 hx with rfl | hx
    · exact h.1
    · exact goodVs_mem h.2 x hx
mutual
theorem good_of_may : ∀ (V : JV) (d : Nat) (l : Int), (mayV V d l).1 = true → goodV V = true
  | .mk k n t names items, d, l, h => by
    rw [mayV] at h
    rw [goodV]
    split at h
    · cases h
    · rename_i h1
      have hp : properB (.mk k n t names items) = true := by
        cases hpp : properB (.mk k n t names items)
        · exact absurd (Or.inr hpp) h1
        · rfl
      rw [hp]
      split at h
      · rename_i h2
        rw [if_neg (by omega)]; rfl
      · rename_i h2
        rw [if_pos (by omega)]
        split at h
        · cases h
        · rw [goods_of_may items _ _ h]; rfl
theorem goods_of_may : ∀ (items : List JV) (d : Nat) (l : Int), (mayL items d l).1 = true → goodVs items = true
  | [], _, _, _ => by rw [goodVs]
  | x :: r, d, l, h => by
    rw [mayL] at h
    split at h
    · rename_i hx
      rw [goodVs, good_of_may x d l hx, goods_of_may r d _ h]; rfl
    · cases h
end
/-- What a proper value of each kind has. -/
theorem proper_text {V : JV} (h : properB V = true) (hk : V.k = 3) : writ V.t = true := by
  cases V with
  | mk k n t names items =>
    have hk3 : k = 3 := hk
    subst hk3
    show writ t = true
    rw [properB] at h
    split at h
    · cases h
    · split at h
      · cases h
      · simpa using h
theorem proper_obj {V : JV} (h : properB V = true) (hk : V.k = 5) : V.names.length = V.items.length ∧ ascB V.names = true ∧ V.names.all writ = true := by
  cases V with
  | mk k n t names items =>
    have hk5 : k = 5 := hk
    subst hk5
    show names.length = items.length ∧ ascB names = true ∧ names.all writ = true
    rw [properB] at h
    split at h
    · cases h
    · split at h
      · cases h
      · simp only at h
        simpa [and_assoc] using h
theorem quote_len {s : ByteArray} (h : writ s = true) : (quoteL s.data.toList).length ≤ 8194 := by
  have h2 : s.size ≤ 4096 := by simp [writ] at h; exact h.1
  have := escL_len s.data.toList
  rw [size_len] at this
  simp only [quoteL, List.length_cons, List.length_append, List.length_nil]
  omega
end Go.Proofs.YtjekdhahbkofbaaDoor
