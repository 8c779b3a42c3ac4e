/-
  The plain mathematics of numbers' texts: which texts are of the form, the number of each, and that strconv's own functions (as the library's contracts tell them) agree with them. No program in this text.
-/
import Derived.Lib.ParseIntB
import Derived.Lib.ItoaNum
namespace Go.Proofs.YtkflnbmbkilicaaDoor
open Go.Lib (decDigits itoa parseUintM parseUintB parseIntB NumEnd)

namespace Nm

/-- A digit. -/
def dg (c : UInt8) : Bool := decide (48 ≤ c.toNat) && decide (c.toNat ≤ 57)
/-- A byte that may stand in a number's text. -/
def isN (c : UInt8) : Bool := dg c || c.toNat == 45 || c.toNat == 43 || c.toNat == 46 || c.toNat == 101 || c.toNat == 69
/-- What stands behind an optional minus sign. -/
def body (t : List UInt8) : List UInt8 := if t.head?.map (·.toNat) = some 45 then t.tail else t
/-- Of the form. -/
def form (t : List UInt8) : Bool := decide (t = [48]) || (decide (body t ≠ []) && decide ((body t).head?.map (·.toNat) ≠ some 48) && (body t).all dg)
/-- The number that digits spell, behind what was spelt before. -/
def dv (acc : Nat) (l : List UInt8) : Nat := l.foldl (fun a c => a * 10 + (c.toNat - 48)) acc
/-- The number that a text spells. -/
def val (t : List UInt8) : Int := if t.head?.map (·.toNat) = some 45 then -(dv 0 t.tail : Int) else dv 0 t
/-- The bytes of a number's text at a place. -/
def run (l : List UInt8) (at_ : Nat) : List UInt8 := (l.drop at_).takeWhile isN

theorem dg_iff (c : UInt8) : dg c = true ↔ 48 ≤ c.toNat ∧ c.toNat ≤ 57 := by simp [dg]
theorem isN_of_dg {c : UInt8} (h : dg c = true) : isN c = true := by simp [isN, h]

theorem u8_ext {a b : UInt8} (h : a.toNat = b.toNat) : a = b := UInt8.toNat_inj.1 h

theorem head_append {a b : List UInt8} (h : a ≠ []) : (a ++ b).head? = a.head? := by
  cases a with
  | nil => exact absurd rfl h
  | cons c r => rfl

theorem dv_le : ∀ (l : List UInt8) (a : Nat), a ≤ dv a l
  | [], a => Nat.le_refl _
  | c :: r, a => by
    have := dv_le r (a * 10 + (c.toNat - 48))
    show a ≤ dv (a * 10 + (c.toNat - 48)) r
    omega

theorem dv_snoc (l : List UInt8) (c : UInt8) (a : Nat) : dv a (l ++ [c]) = dv a l * 10 + (c.toNat - 48) := by
  unfold dv; rw [List.foldl_append]; rfl

theorem parse_digits (M : Nat) (hM : M = 18446744073709551615) : ∀ (l : List UInt8) (a : Nat), a ≤ M → l.all dg = true → parseUintM M a l = if dv a l ≤ M then .ok (dv a l) else .range
  | [], a, ha, _ => by simp [parseUintM, dv, ha]
  | c :: r, a, ha, h => by
    simp only [List.all_cons, Bool.and_eq_true] at h
    obtain ⟨hc, hr⟩ := h
    have hc' := (dg_iff c).1 hc
    have hle := dv_le r (a * 10 + (c.toNat - 48))
    have hd : dv a (c :: r) = dv (a * 10 + (c.toNat - 48)) r := rfl
    rw [parseUintM, if_pos hc', hd]
    by_cases h1 : 1844674407370955162 ≤ a
    · rw [if_pos h1, if_neg (by omega)]
    · rw [if_neg h1]
      by_cases h2 : M < a * 10 + (c.toNat - 48)
      · rw [if_pos h2, if_neg (by omega)]
      · rw [if_neg h2]
        exact parse_digits M hM r _ (by omega) hr

theorem body_neg {t : List UInt8} (h : t.head?.map (·.toNat) = some 45) : body t = t.tail := by simp [body, h]
theorem body_pos {t : List UInt8} (h : ¬ t.head?.map (·.toNat) = some 45) : body t = t := by simp [body, h]

theorem form_parts {t : List UInt8} (h : form t = true) : body t ≠ [] ∧ (body t).all dg = true ∧ (t = [48] ∨ (body t).head?.map (·.toNat) ≠ some 48) := by
  simp only [form, Bool.or_eq_true, Bool.and_eq_true, decide_eq_true_eq] at h
  rcases h with h | ⟨⟨h1, h2⟩, h3⟩
  · subst h; exact ⟨by decide, by decide, Or.inl rfl⟩
  · exact ⟨h1, h3, Or.inr h2⟩

theorem form_mk {t : List UInt8} (h1 : body t ≠ []) (h2 : (body t).all dg = true) (h3 : t = [48] ∨ (body t).head?.map (·.toNat) ≠ some 48) : form t = true := by
  simp only [form, Bool.or_eq_true, Bool.and_eq_true, decide_eq_true_eq]
  rcases h3 with h | h
  · exact Or.inl h
  · exact Or.inr ⟨⟨h1, h⟩, h2⟩

/-- strconv.ParseInt of a text of the form. -/
theorem parse_form {t : List UInt8} (h : form t = true) : parseIntB 64 t = if -9223372036854775808 ≤ val t ∧ val t ≤ 9223372036854775807 then .ok (val t) else .range := by
  obtain ⟨h1, h2, _⟩ := form_parts h
  match t, h1, h2 with
  | [], h1, _ => exact absurd rfl h1
  | c :: r, h1, h2 =>
    by_cases hn : c.toNat = 45
    · have hb : body (c :: r) = r := body_neg (by simp [hn])
      rw [hb] at h1 h2
      have hv : val (c :: r) = -(dv 0 r : Int) := by simp [val, hn]
      have hp : parseUintB 64 r = if dv 0 r ≤ 18446744073709551615 then .ok (dv 0 r) else .range := by
        rw [parseUintB, if_neg h1]; exact parse_digits _ (by decide) r 0 (by decide) h2
      simp only [parseIntB, hn, or_true, if_true, hp, hv]
      by_cases hs : dv 0 r ≤ 18446744073709551615
      · rw [if_pos hs]
        simp only [not_true, false_and, if_false, true_and]
        by_cases hs2 : dv 0 r ≤ 9223372036854775808
        · rw [if_neg (by omega), if_pos (by omega)]
        · rw [if_pos (by omega), if_neg (by omega)]
      · rw [if_neg hs]
        simp only []
        rw [if_neg (by omega)]
    · have hb : body (c :: r) = c :: r := body_pos (by simp [hn])
      rw [hb] at h1 h2
      have hc : 48 ≤ c.toNat ∧ c.toNat ≤ 57 := (dg_iff c).1 (by simp only [List.all_cons, Bool.and_eq_true] at h2; exact h2.1)
      have hv : val (c :: r) = (dv 0 (c :: r) : Int) := by simp [val, hn]
      have hp : parseUintB 64 (c :: r) = if dv 0 (c :: r) ≤ 18446744073709551615 then .ok (dv 0 (c :: r)) else .range := by
        rw [parseUintB, if_neg h1]; exact parse_digits _ (by decide) _ 0 (by decide) h2
      have hn3 : ¬ c.toNat = 43 := by omega
      simp only [parseIntB, hn, hn3, or_false, if_false, hp, hv]
      generalize dv 0 (c :: r) = V
      by_cases hs : V ≤ 18446744073709551615
      · rw [if_pos hs]
        simp only [not_false_eq_true, false_and, if_false, true_and]
        by_cases hs2 : V < 9223372036854775808
        · rw [if_neg (by omega), if_pos (by omega)]
        · rw [if_pos (by omega), if_neg (by omega)]
      · rw [if_neg hs]
        simp only []
        rw [if_neg (by omega)]

/-- Digits without a leading 0 are the digits of the number that they spell. -/
theorem digits_back (d : List UInt8) (h1 : d ≠ []) (h2 : d.all dg = true) (h3 : d = [48] ∨ d.head?.map (·.toNat) ≠ some 48) : decDigits (dv 0 d) = d ∧ (d = [48] ∨ 1 ≤ dv 0 d) := by
  obtain ⟨n, hn⟩ : ∃ n, d.length = n := ⟨_, rfl⟩
  induction n using Nat.strongRecOn generalizing d with
  | _ n ih =>
    obtain ⟨d', c, rfl⟩ : ∃ d' c, d = d' ++ [c] := ⟨d.dropLast, d.getLast h1, (List.dropLast_concat_getLast h1).symm⟩
    simp only [List.all_append, List.all_cons, List.all_nil, Bool.and_true, Bool.and_eq_true] at h2
    obtain ⟨hd, hc⟩ := h2
    have hc' := (dg_iff c).1 hc
    rw [dv_snoc]
    by_cases he : d' = []
    · subst he
      have e0 : dv 0 [] * 10 + (c.toNat - 48) = c.toNat - 48 := by simp [dv]
      have hne : c = 48 ∨ c.toNat ≠ 48 := by
        by_cases h : c.toNat = 48
        · exact Or.inl (u8_ext h)
        · exact Or.inr h
      rw [e0]
      refine ⟨?_, ?_⟩
      · rw [decDigits, dif_pos (by omega), show 48 + (c.toNat - 48) = c.toNat by omega, UInt8.ofNat_toNat]; rfl
      · rcases hne with h | h
        · subst h; exact Or.inl rfl
        · exact Or.inr (by omega)
    · have h3' : d'.head?.map (·.toNat) ≠ some 48 := by
        rcases h3 with h | h
        · exfalso
          have hl : (d' ++ [c]).length = 1 := by rw [h]; rfl
          rw [List.length_append] at hl
          exact he (List.length_eq_zero_iff.1 (by simp at hl; simp [hl]))
        · rw [head_append he] at h; exact h
      have hl : d'.length < n := by rw [← hn]; simp
      obtain ⟨i1, i2⟩ := ih d'.length hl d' he hd (Or.inr h3') rfl
      have hpos : 1 ≤ dv 0 d' := by
        rcases i2 with h | h
        · subst h; exact absurd rfl h3'
        · exact h
      refine ⟨?_, Or.inr (by omega)⟩
      rw [decDigits, dif_neg (by omega), show (dv 0 d' * 10 + (c.toNat - 48)) / 10 = dv 0 d' by omega, i1, show 48 + (dv 0 d' * 10 + (c.toNat - 48)) % 10 = c.toNat by omega, UInt8.ofNat_toNat]

/-- A number's own digits. -/
theorem digits_of (u : Nat) : decDigits u ≠ [] ∧ (decDigits u).all dg = true ∧ (decDigits u = [48] ∨ (decDigits u).head?.map (·.toNat) ≠ some 48) ∧ dv 0 (decDigits u) = u := by
  induction u using Nat.strongRecOn with
  | _ u ih =>
    by_cases h : u < 10
    · have e : decDigits u = [UInt8.ofNat (48 + u)] := Lib.decDigits_one h
      have e2 : (UInt8.ofNat (48 + u)).toNat = 48 + u := by rw [UInt8.toNat_ofNat']; omega
      rw [e]
      refine ⟨by simp, by simp [dg]; omega, ?_, by simp [dv]; omega⟩
      by_cases h0 : u = 0
      · subst h0; exact Or.inl rfl
      · right; simp; omega
    · have e : decDigits u = decDigits (u / 10) ++ [UInt8.ofNat (48 + u % 10)] := by rw [decDigits, dif_neg h]
      have e2 : (UInt8.ofNat (48 + u % 10)).toNat = 48 + u % 10 := by rw [UInt8.toNat_ofNat']; omega
      obtain ⟨i1, i2, i3, i4⟩ := ih (u / 10) (by omega)
      rw [e]
      refine ⟨by simp, ?_, Or.inr ?_, ?_⟩
      · rw [List.all_append, i2]; simp [dg]; omega
      · rw [head_append i1]
        rcases i3 with h | h
        · rw [h] at i4; simp [dv] at i4; omega
        · exact h
      · rw [dv_snoc, i4, e2]; omega

/-- A number's text is of the form, and spells the number. -/
theorem itoa_form (n : Int) : form (itoa n) = true ∧ val (itoa n) = n ∧ (itoa n).all isN = true ∧ itoa n ≠ [] := by
  unfold itoa
  by_cases h : n < 0
  · rw [if_pos h]
    obtain ⟨i1, i2, i3, i4⟩ := digits_of n.natAbs
    have hb : body (45 :: decDigits n.natAbs) = decDigits n.natAbs := body_neg (by simp)
    refine ⟨form_mk (by rw [hb]; exact i1) (by rw [hb]; exact i2) (Or.inr ?_), ?_, ?_, by simp⟩
    · rw [hb]
      rcases i3 with e | e
      · rw [e] at i4; simp [dv] at i4; omega
      · exact e
    · simp [val, i4]; omega
    · simp only [List.all_cons, Bool.and_eq_true]
      refine ⟨by decide, ?_⟩
      rw [List.all_eq_true] at i2 ⊢
      exact fun x hx => isN_of_dg (i2 x hx)
  · rw [if_neg h]
    obtain ⟨i1, i2, i3, i4⟩ := digits_of n.toNat
    have hh : ¬ (decDigits n.toNat).head?.map (·.toNat) = some 45 := by
      match decDigits n.toNat, i2 with
      | [], _ => simp
      | c :: r, h2 =>
        simp only [List.all_cons, Bool.and_eq_true] at h2
        have := (dg_iff c).1 h2.1
        simp; omega
    have hb : body (decDigits n.toNat) = decDigits n.toNat := body_pos hh
    refine ⟨form_mk (by rw [hb]; exact i1) (by rw [hb]; exact i2) (by rw [hb]; exact i3), ?_, ?_, i1⟩
    · rw [val, if_neg hh, i4]; omega
    · rw [List.all_eq_true] at i2 ⊢
      exact fun x hx => isN_of_dg (i2 x hx)

/-- A text of the form is the text of its number. -/
theorem itoa_val {t : List UInt8} (h : form t = true) : itoa (val t) = t := by
  obtain ⟨h1, h2, h3⟩ := form_parts h
  by_cases hn : t.head?.map (·.toNat) = some 45
  · rw [body_neg hn] at h1 h2 h3
    have h3' : t.tail.head?.map (·.toNat) ≠ some 48 := by
      rcases h3 with e | e
      · subst e; simp at hn
      · exact e
    obtain ⟨i1, i2⟩ := digits_back t.tail h1 h2 (Or.inr h3')
    have hpos : 1 ≤ dv 0 t.tail := by
      rcases i2 with e | e
      · rw [e] at h3'; exact absurd rfl h3'
      · exact e
    rw [val, if_pos hn, itoa, if_pos (by omega), show (-(dv 0 t.tail : Int)).natAbs = dv 0 t.tail by omega, i1]
    match t, hn with
    | c :: r, hn =>
      simp only [List.head?_cons, Option.map_some, Option.some.injEq] at hn
      rw [u8_ext (a := c) (b := 45) hn]; rfl
  · rw [body_pos hn] at h1 h2 h3
    obtain ⟨i1, _⟩ := digits_back t h1 h2 h3
    rw [val, if_neg hn, itoa, if_neg (by omega), Int.toNat_natCast, i1]

theorem itoa_inj {a b : Int} (h : itoa a = itoa b) : a = b := by
  rw [← (itoa_form a).2.1, ← (itoa_form b).2.1, h]

end Nm
end Go.Proofs.YtkflnbmbkilicaaDoor
