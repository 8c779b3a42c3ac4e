/-
  Texts that are read are UTF-8.
-/
import Derived.Test.YtfdecbfcddkoiaaGreatDoorReadP
import Derived.Test.YtfdecbfcddkoiaaGreatDoorReadSt
import Derived.Test.YtfdecbfcddkoiaaGreatDoorMayA
namespace Go.Proofs.YtfdecbfcddkoiaaGreatDoor
open Go.RowKit

theorem u8_of (n : Nat) (h : n < 256) : (UInt8.ofNat n).toNat = n := by
  exact UInt8.toNat_ofNat_of_lt' (by simpa using h)
/-- A rune's bytes begin that rune. -/
theorem next_enc (r : Int) (hr : isRune r) (l : List UInt8) : nextP (encP r ++ l) = (r, ((encP r).length : Int), 0) := by
  obtain ⟨h0, h1, h2⟩ := hr
  obtain ⟨n, rfl⟩ : ∃ n : Nat, r = n := ⟨r.toNat, by omega⟩
  unfold encP
  rw [Int.toNat_natCast]
  by_cases a1 : (n : Int) < 128
  · rw [if_pos a1]
    have e1 := u8_of n (by omega)
    rw [List.singleton_append, nextP, e1, if_pos (by omega)]
    rfl
  rw [if_neg a1]
  by_cases a2 : (n : Int) < 2048
  · rw [if_pos a2]
    have e1 := u8_of (192 + n / 64) (by omega)
    have e2 := u8_of (128 + n % 64) (by omega)
    rw [List.cons_append, List.singleton_append, nextP, e1, if_neg (by omega), if_neg (by omega), if_pos (by omega), next2P, e1, e2, if_neg (by omega)]
    simp only [Prod.mk.injEq, List.length_cons, List.length_nil, and_true]
    omega
  rw [if_neg a2]
  by_cases a3 : (n : Int) < 65536
  · rw [if_pos a3]
    have e1 := u8_of (224 + n / 4096) (by omega)
    have e2 := u8_of (128 + n / 64 % 64) (by omega)
    have e3 := u8_of (128 + n % 64) (by omega)
    rw [List.cons_append, List.cons_append, List.singleton_append, nextP, e1, if_neg (by omega), if_neg (by omega), if_neg (by omega), if_pos (by omega), next3P, if_pos (by unfold ok3; rw [e1, e2]; omega), next3Q, e1, e2, e3, if_neg (by omega)]
    simp only [Prod.mk.injEq, List.length_cons, List.length_nil, and_true]
    omega
  · rw [if_neg a3]
    have e1 := u8_of (240 + n / 262144) (by omega)
    have e2 := u8_of (128 + n / 4096 % 64) (by omega)
    have e3 := u8_of (128 + n / 64 % 64) (by omega)
    have e4 := u8_of (128 + n % 64) (by omega)
    rw [List.cons_append, List.cons_append, List.cons_append, List.singleton_append, nextP, e1, if_neg (by omega), if_neg (by omega), if_neg (by omega), if_neg (by omega), next4P, if_pos (by unfold ok4; rw [e1, e2]; omega), next4Q, e3, if_neg (by omega), next4R, e1, e2, e3, e4, if_neg (by omega)]
    simp only [Prod.mk.injEq, List.length_cons, List.length_nil, and_true]
    omega
/-- What a string says is a row of runes. -/
theorem strGo_runes : ∀ (f : Nat) (l out : List UInt8), (strGo f l out).2.2 = 0 → ∃ rs : List Int, (∀ r ∈ rs, isRune r) ∧ (strGo f l out).1 = out ++ rs.flatMap encP
  | 0, _, _, h => by simp [strGo] at h
  | f + 1, [], _, h => by simp [strGo] at h
  | f + 1, c :: r, out, h => by
    rw [strGo] at h ⊢
    by_cases h1 : c.toNat = 34
    · rw [if_pos h1]; exact ⟨[], by simp, by simp⟩
    rw [if_neg h1] at h ⊢
    by_cases h2 : (itemP (c :: r)).2.2 ≠ 0
    · rw [if_pos h2] at h; exact absurd h h2
    rw [if_neg h2] at h ⊢
    by_cases h3 : 4096 < out.length + (encP (itemP (c :: r)).1).length
    · rw [if_pos h3] at h; simp at h
    rw [if_neg h3] at h ⊢
    by_cases h4 : (strGo f ((c :: r).drop (itemP (c :: r)).2.1) (out ++ encP (itemP (c :: r)).1)).2.2 ≠ 0
    · rw [if_pos h4] at h; exact absurd h h4
    rw [if_neg h4]
    obtain ⟨rs, hrs, he⟩ := strGo_runes f _ _ (Classical.not_not.1 h4)
    obtain ⟨hr, -⟩ := itemP_ok (c :: r) (Classical.not_not.1 h2)
    refine ⟨(itemP (c :: r)).1 :: rs, fun x hx => ?_, ?_⟩
    · rw [List.mem_cons] at hx
      rcases hx with rfl | hx
      · exact hr
      · exact hrs x hx
    · show (strGo f _ _).1 = _
      rw [he, List.append_assoc, List.flatMap_cons]
theorem lenGo_runes : ∀ (rs : List Int), (∀ r ∈ rs, isRune r) → ∀ f, lenGo (rs.flatMap encP) f = true
  | [], _, f => by cases f <;> simp [lenGo]
  | r :: rs, h, 0 => by simp [lenGo]
  | r :: rs, h, f + 1 => by
    have hr := h r (by simp)
    rw [List.flatMap_cons, lenGo, next_enc r hr]
    have hne : encP r ++ rs.flatMap encP ≠ [] := by
      have := (encP_len r).1
      intro e
      have e2 := congrArg List.length e
      rw [List.length_append, List.length_nil] at e2
      omega
    rw [if_neg hne, if_pos rfl]
    show lenGo (List.drop ((encP r).length : Int).toNat _) f = true
    rw [Int.toNat_natCast, List.drop_left]
    exact lenGo_runes rs (fun x hx => h x (by simp [hx])) f
/-- The texts of marks may be texts of values. -/
theorem text_writ {l : List UInt8} (h : (tokP l).e = 0) : writ ⟨(tokP l).t.toArray⟩ = true := by
  have hsz := (tokP_b l).2.2
  have hut : ∃ rs : List Int, (∀ r ∈ rs, isRune r) ∧ (tokP l).t = rs.flatMap encP := by
    match l with
    | [] => exact ⟨[], by simp, by simp [tokP]⟩
    | c :: r =>
      rw [tokP] at h ⊢
      by_cases h1 : signOf c ≠ 0
      · rw [if_pos h1]; exact ⟨[], by simp, by simp⟩
      rw [if_neg h1] at h ⊢
      by_cases h2 : c.toNat = 34
      · rw [if_pos h2] at h ⊢
        unfold textP at h ⊢
        by_cases h3 : (strP r).2.2 ≠ 0
        · rw [if_pos h3]; exact ⟨[], by simp, by simp [Tok.bad]⟩
        · rw [if_neg h3]
          obtain ⟨rs, h4, h5⟩ := strGo_runes _ r [] (Classical.not_not.1 h3)
          exact ⟨rs, h4, by rw [List.nil_append] at h5; exact h5⟩
      rw [if_neg h2] at h ⊢
      by_cases h3 : numFirst c = true
      · rw [if_pos h3] at h ⊢
        rw [(numP_ok h).2.2.1]
        exact ⟨[], by simp, by simp⟩
      · rw [if_neg h3] at h ⊢
        rw [(wordP_ok h).2.2.2.1]
        exact ⟨[], by simp, by simp⟩
  obtain ⟨rs, hrs, he⟩ := hut
  unfold writ
  rw [Bool.and_eq_true, decide_eq_true_eq, utfOK_len]
  exact ⟨hsz, by show lenGo (tokP l).t _ = true; rw [he]; exact lenGo_runes rs hrs _⟩
end Go.Proofs.YtfdecbfcddkoiaaGreatDoor
