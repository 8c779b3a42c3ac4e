/-
  A string is UTF-8 by ranging over it just if it is rune by rune.
-/
import Derived.Test.YtkflnbmbkilicaaDoorUtfPlain
import Derived.Lib.TrimUEq
namespace Go.Proofs.YtkflnbmbkilicaaDoor
open Go.RowKit
open Go.Lib (decodeN decodeL)

theorem decN_bad (n b0 b1 b2 b3 : Nat) (h : 128 ≤ b0) (h0 : b0 < 194 ∨ 244 < b0 ∨ n < 2 ∨ ¬ (128 ≤ b1 ∧ b1 ≤ 191) ∨ (224 ≤ b0 ∧ (n < 3 ∨ ¬ (128 ≤ b2 ∧ b2 ≤ 191))) ∨ (240 ≤ b0 ∧ (n < 4 ∨ ¬ (128 ≤ b3 ∧ b3 ≤ 191))) ∨ (b0 = 224 ∧ b1 < 160) ∨ (b0 = 237 ∧ 159 < b1) ∨ (b0 = 240 ∧ b1 < 144) ∨ (b0 = 244 ∧ 143 < b1)) (k0 : b0 < 256) (k1 : b1 < 256) (k2 : b2 < 256) (k3 : b3 < 256) : decodeN n b0 b1 b2 b3 = (65533, 1) := by
  unfold decodeN
  rw [if_neg (by omega)]
  split
  · rw [if_neg (by omega)]
  · split
    · rw [if_neg (by omega)]
    · split
      · rw [if_neg (by omega)]
      · rfl
theorem decN_2 (n b0 b1 b2 b3 : Nat) (h : 194 ≤ b0) (h0 : b0 < 224) (hn : 2 ≤ n) (h1 : 128 ≤ b1) (h2 : b1 ≤ 191) : decodeN n b0 b1 b2 b3 = ((b0 - 192) * 64 + (b1 - 128), 2) := by
  unfold decodeN
  rw [if_neg (by omega), if_pos (by omega), if_pos (by omega)]
  simp only [Prod.mk.injEq, and_true]; omega
theorem decN_3 (n b0 b1 b2 b3 : Nat) (h : 224 ≤ b0) (h0 : b0 < 240) (hn : 3 ≤ n) (h1 : 128 ≤ b1) (h2 : b1 ≤ 191) (h3 : 128 ≤ b2) (h4 : b2 ≤ 191) (h5 : ¬ (b0 = 224 ∧ b1 < 160)) (h6 : ¬ (b0 = 237 ∧ 159 < b1)) : decodeN n b0 b1 b2 b3 = ((b0 - 224) * 4096 + (b1 - 128) * 64 + (b2 - 128), 3) := by
  unfold decodeN
  rw [if_neg (by omega), if_neg (by omega), if_pos (by omega), if_pos (by omega)]
  simp only [Prod.mk.injEq, and_true]; omega
theorem decN_4 (n b0 b1 b2 b3 : Nat) (h : 240 ≤ b0) (h0 : b0 ≤ 244) (hn : 4 ≤ n) (h1 : 128 ≤ b1) (h2 : b1 ≤ 191) (h3 : 128 ≤ b2) (h4 : b2 ≤ 191) (h3' : 128 ≤ b3) (h4' : b3 ≤ 191) (h5 : ¬ (b0 = 240 ∧ b1 < 144)) (h6 : ¬ (b0 = 244 ∧ 143 < b1)) : decodeN n b0 b1 b2 b3 = ((b0 - 240) * 262144 + (b1 - 128) * 4096 + (b2 - 128) * 64 + (b3 - 128), 4) := by
  unfold decodeN
  rw [if_neg (by omega), if_neg (by omega), if_neg (by omega), if_pos (by omega), if_pos (by omega)]
  simp only [Prod.mk.injEq, and_true]; omega
theorem decodeN_1 (n b0 b1 b2 b3 : Nat) (h : b0 < 128) : decodeN n b0 b1 b2 b3 = (b0, 1) := by unfold decodeN; rw [if_pos h]

/-- What decoding gives, by the plain reading. -/
def DecIs (l : List UInt8) : Prop := ((nextP l).2.2 = 0 ∧ ((decodeL l).1 : Int) = (nextP l).1 ∧ ((decodeL l).2 : Int) = (nextP l).2.1) ∨ ((nextP l).2.2 ≠ 0 ∧ decodeL l = (65533, 1))
theorem dec_is (c : UInt8) (r : List UInt8) : DecIs (c :: r) := by
  unfold DecIs
  rw [Lib.decodeL_N]
  have hc := u8_lt c
  have hb1 := u8_lt ((c :: r).getD 1 0)
  have hb2 := u8_lt ((c :: r).getD 2 0)
  have hb3 := u8_lt ((c :: r).getD 3 0)
  rw [show (c :: r).getD 0 0 = c from rfl]
  by_cases h1 : c.toNat < 128
  · rw [next1 r h1, decodeN_1 _ _ _ _ _ h1]; exact Or.inl ⟨rfl, rfl, rfl⟩
  · by_cases h2 : c.toNat < 194 ∨ 244 < c.toNat
    · rw [next_bad r h1 h2, decN_bad _ _ _ _ _ (by omega) (by omega) hc hb1 hb2 hb3]; exact Or.inr ⟨by decide, rfl⟩
    · by_cases h3 : c.toNat < 224
      · rw [next2 r (by omega) h3]
        match r with
        | [] => rw [decN_bad _ _ _ _ _ (by omega) (by simp) hc hb1 hb2 hb3]; exact Or.inr ⟨by simp [next2P], rfl⟩
        | d :: r =>
          rw [next2P]
          rw [show (c :: d :: r).getD 1 0 = d from rfl] at hb1 ⊢
          by_cases hd : d.toNat < 128 ∨ 191 < d.toNat
          · rw [if_pos hd, decN_bad _ _ _ _ _ (by omega) (by omega) hc hb1 hb2 hb3]; exact Or.inr ⟨by decide, rfl⟩
          · rw [if_neg hd, decN_2 _ _ _ _ _ (by omega) h3 (by simp) (by omega) (by omega)]
            exact Or.inl ⟨rfl, by simp only []; omega, rfl⟩
      · by_cases h5 : c.toNat < 240
        · rw [next3 r h3 h5]
          match r with
          | [] => rw [decN_bad _ _ _ _ _ (by omega) (by simp) hc hb1 hb2 hb3]; exact Or.inr ⟨by simp [next3P], rfl⟩
          | d :: r =>
            rw [next3P]
            rw [show (c :: d :: r).getD 1 0 = d from rfl] at hb1 ⊢
            by_cases hd : ok3 c d
            · rw [if_pos hd]
              unfold ok3 at hd
              match r with
              | [] => rw [decN_bad _ _ _ _ _ (by omega) (by simp; omega) hc hb1 hb2 hb3]; exact Or.inr ⟨by simp [next3Q], rfl⟩
              | e :: r =>
                rw [next3Q]
                rw [show (c :: d :: e :: r).getD 2 0 = e from rfl] at hb2 ⊢
                by_cases he : e.toNat < 128 ∨ 191 < e.toNat
                · rw [if_pos he, decN_bad _ _ _ _ _ (by omega) (by omega) hc hb1 hb2 hb3]; exact Or.inr ⟨by decide, rfl⟩
                · rw [if_neg he, decN_3 _ _ _ _ _ (by omega) h5 (by simp) (by omega) (by omega) (by omega) (by omega) (by omega) (by omega)]
                  exact Or.inl ⟨rfl, by simp only []; omega, rfl⟩
            · rw [if_neg hd]
              unfold ok3 at hd
              rw [decN_bad _ _ _ _ _ (by omega) (by omega) hc hb1 hb2 hb3]; exact Or.inr ⟨by decide, rfl⟩
        · rw [next4 r h5 (by omega)]
          match r with
          | [] => rw [decN_bad _ _ _ _ _ (by omega) (by simp) hc hb1 hb2 hb3]; exact Or.inr ⟨by simp [next4P], rfl⟩
          | d :: r =>
            rw [next4P]
            rw [show (c :: d :: r).getD 1 0 = d from rfl] at hb1 ⊢
            by_cases hd : ok4 c d
            · rw [if_pos hd]
              unfold ok4 at hd
              match r with
              | [] => rw [decN_bad _ _ _ _ _ (by omega) (by simp; omega) hc hb1 hb2 hb3]; exact Or.inr ⟨by simp [next4Q], rfl⟩
              | e :: r =>
                rw [next4Q]
                rw [show (c :: d :: e :: r).getD 2 0 = e from rfl] at hb2 ⊢
                by_cases he : e.toNat < 128 ∨ 191 < e.toNat
                · rw [if_pos he, decN_bad _ _ _ _ _ (by omega) (by omega) hc hb1 hb2 hb3]; exact Or.inr ⟨by decide, rfl⟩
                · rw [if_neg he]
                  match r with
                  | [] => rw [decN_bad _ _ _ _ _ (by omega) (by simp; omega) hc hb1 hb2 hb3]; exact Or.inr ⟨by simp [next4R], rfl⟩
                  | f :: r =>
                    rw [next4R]
                    rw [show (c :: d :: e :: f :: r).getD 3 0 = f from rfl] at hb3 ⊢
                    by_cases hf : f.toNat < 128 ∨ 191 < f.toNat
                    · rw [if_pos hf, decN_bad _ _ _ _ _ (by omega) (by omega) hc hb1 hb2 hb3]; exact Or.inr ⟨by decide, rfl⟩
                    · rw [if_neg hf, decN_4 _ _ _ _ _ (by omega) (by omega) (by simp) (by omega) (by omega) (by omega) (by omega) (by omega) (by omega) (by omega) (by omega)]
                      exact Or.inl ⟨rfl, by simp only []; omega, rfl⟩
            · rw [if_neg hd]
              unfold ok4 at hd
              rw [decN_bad _ _ _ _ _ (by omega) (by omega) hc hb1 hb2 hb3]; exact Or.inr ⟨by decide, rfl⟩
/-- The rune that stands for what is none, where it really stands. -/
theorem next_fffd {l : List UInt8} (h : Lib.hasPrefix l [239, 191, 189] = true) : nextP l = (65533, 3, 0) := by
  unfold Lib.hasPrefix at h
  match l, h with
  | [], h => simp [List.isPrefixOf] at h
  | [c], h => simp [List.isPrefixOf] at h
  | [c, d], h => simp [List.isPrefixOf] at h
  | c :: d :: e :: r, h =>
    simp only [List.isPrefixOf, Bool.and_eq_true, beq_iff_eq, Bool.and_true] at h
    obtain ⟨rfl, rfl, rfl⟩ := h
    rfl
theorem fffd_next (c : UInt8) (r : List UInt8) (h : (nextP (c :: r)).2.2 = 0) (h2 : (nextP (c :: r)).1 = 65533) : Lib.hasPrefix (c :: r) [239, 191, 189] = true := by
  have hc := u8_lt c
  by_cases h1 : c.toNat < 128
  · rw [next1 r h1] at h2; simp only [] at h2; omega
  · by_cases h2' : c.toNat < 194 ∨ 244 < c.toNat
    · rw [next_bad r h1 h2'] at h; simp at h
    · by_cases h3 : c.toNat < 224
      · rw [next2 r (by omega) h3] at h h2
        match r with
        | [] => simp [next2P] at h
        | d :: r =>
          rw [next2P] at h h2
          have hd' := u8_lt d
          split at h2
          · simp at h2
          · simp only [] at h2; omega
      · by_cases h5 : c.toNat < 240
        · rw [next3 r h3 h5] at h h2
          match r with
          | [] => simp [next3P] at h
          | d :: r =>
            rw [next3P] at h h2
            by_cases hd : ok3 c d
            · rw [if_pos hd] at h h2
              unfold ok3 at hd
              match r with
              | [] => simp [next3Q] at h
              | e :: r =>
                rw [next3Q] at h h2
                split at h2
                · simp at h2
                · simp only [] at h2
                  have e1 : c = 239 := UInt8.toNat_inj.1 (by show c.toNat = 239; omega)
                  have e2 : d = 191 := UInt8.toNat_inj.1 (by show d.toNat = 191; omega)
                  have e3 : e = 189 := UInt8.toNat_inj.1 (by show e.toNat = 189; omega)
                  subst e1 e2 e3
                  simp [Lib.hasPrefix, List.isPrefixOf]
            · rw [if_neg hd] at h; simp at h
        · rw [next4 r h5 (by omega)] at h h2
          match r with
          | [] => simp [next4P] at h
          | d :: r =>
            rw [next4P] at h h2
            by_cases hd : ok4 c d
            · rw [if_pos hd] at h h2
              unfold ok4 at hd
              match r with
              | [] => simp [next4Q] at h
              | e :: r =>
                rw [next4Q] at h h2
                split at h2
                · simp at h2
                · rename_i he
                  rw [if_neg he] at h
                  match r with
                  | [] => simp [next4R] at h
                  | f :: r =>
                    rw [next4R] at h h2
                    split at h2
                    · simp at h2
                    · simp only [] at h2; omega
            · rw [if_neg hd] at h; simp at h
theorem bad_iff (s : ByteArray) (pos : Nat) (h : pos < s.size) : badAt s pos = decide ((nextP (s.data.toList.drop pos)).2.2 ≠ 0) ∧ ((nextP (s.data.toList.drop pos)).2.2 = 0 → ((Utf8.decode s pos).2 : Int) = (nextP (s.data.toList.drop pos)).2.1) := by
  unfold badAt
  rw [← Lib.decodeL_drop]
  match hl : s.data.toList.drop pos with
  | [] =>
    have := congrArg List.length hl
    rw [List.length_drop, size_len] at this
    simp at this
    omega
  | c :: r =>
    rcases dec_is c r with ⟨h1, h2, h3⟩ | ⟨h1, h2⟩
    · refine ⟨?_, fun _ => h3⟩
      rw [decide_eq_false (p := (nextP (c :: r)).2.2 ≠ 0) (by simpa using h1)]
      by_cases hv : (decodeL (c :: r)).1 = 65533
      · rw [fffd_next c r h1 (by rw [← h2, hv]; rfl)]; simp
      · rw [decide_eq_false hv]; rfl
    · refine ⟨?_, fun h => absurd h h1⟩
      rw [decide_eq_true h1, h2]
      cases hp : Lib.hasPrefix (c :: r) [239, 191, 189] with
      | false => rfl
      | true =>
        rw [next_fffd hp] at h1
        simp at h1
/-- Rune by rune, from a place on. -/
def lenGo (l : List UInt8) : Nat → Bool
  | 0 => true
  | f + 1 => if l = [] then true else if (nextP l).2.2 = 0 then lenGo (l.drop (nextP l).2.1.toNat) f else false
theorem utfGo_len (s : ByteArray) : ∀ (f pos : Nat), utfGo s f pos = lenGo (s.data.toList.drop pos) f
  | 0, _ => rfl
  | f + 1, pos => by
    rw [utfGo, lenGo]
    by_cases hp : pos < s.size
    · have hne : s.data.toList.drop pos ≠ [] := by
        intro e
        have := congrArg List.length e
        rw [List.length_drop, size_len] at this
        simp at this
        omega
      rw [if_pos hp, if_neg hne]
      obtain ⟨h1, h2⟩ := bad_iff s pos hp
      rw [h1]
      by_cases he : (nextP (s.data.toList.drop pos)).2.2 = 0
      · rw [if_neg (by simp [he]), if_pos he, utfGo_len s f, List.drop_drop]
        have := h2 he
        rw [show (nextP (s.data.toList.drop pos)).2.1.toNat = (Utf8.decode s pos).2 by omega]
      · rw [if_pos (by simp [he]), if_neg he]
    · rw [if_neg hp, if_pos (List.drop_of_length_le (by rw [size_len]; omega))]
theorem utfOK_len (s : ByteArray) : utfOK s = lenGo s.data.toList s.size := by rw [utfOK, utfGo_len, List.drop_zero]
end Go.Proofs.YtkflnbmbkilicaaDoor
