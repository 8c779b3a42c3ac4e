/-
  What stands at the head of bytes does not hang on what is behind it (plain).
  All marks of bytes, plainly, and the laws on them.
  The marks of bytes: their row, each by itself, blanks between them (plain).
-/
import Derived.Test.YtfdecbfcddkoiaaGreatDoorUtfN
namespace Go.Proofs.YtfdecbfcddkoiaaGreatDoor
section
theorem fourGo_more : ∀ (k : Nat) (n : Int) (l r : List UInt8), (fourGo k n l).2 ≠ 4 → fourGo k n (l ++ r) = fourGo k n l
  | 0, _, _, _, _ => by rw [fourGo, fourGo]
  | _ + 1, _, [], _, h => absurd rfl h
  | k + 1, n, c :: l, r, h => by
    rw [List.cons_append, fourGo, fourGo]
    rw [fourGo] at h
    by_cases hc : hexV c < 0
    · rw [if_pos hc, if_pos hc]
    · rw [if_neg hc] at h
      rw [if_neg hc, if_neg hc]
      exact fourGo_more k _ l r h
theorem fourGo_take : ∀ (k : Nat) (n : Int) (l : List UInt8) (m : Nat), k ≤ m → (fourGo k n l).2 = 0 → fourGo k n (l.take m) = fourGo k n l
  | 0, _, _, _, _, _ => by rw [fourGo, fourGo]
  | _ + 1, _, [], _, _, _ => by rw [List.take_nil]
  | k + 1, n, c :: l, 0, hm, _ => by omega
  | k + 1, n, c :: l, m + 1, hm, h => by
    rw [List.take_succ_cons, fourGo, fourGo]
    rw [fourGo] at h
    by_cases hc : hexV c < 0
    · rw [if_pos hc, if_pos hc]
    · rw [if_neg hc] at h
      rw [if_neg hc, if_neg hc]
      exact fourGo_take k _ l m (by omega) h
theorem fourP_more (l r : List UInt8) (h : (fourP l).2 ≠ 4) : fourP (l ++ r) = fourP l := fourGo_more 4 0 l r h
theorem fourP_take (l : List UInt8) (m : Nat) (hm : 4 ≤ m) (h : (fourP l).2 = 0) : fourP (l.take m) = fourP l := fourGo_take 4 0 l m hm h
theorem pairQ_more (n : Int) (l r : List UInt8) (h : (pairQ n l).2.2 ≠ 4) : pairQ n (l ++ r) = pairQ n l := by
  match l with
  | [] => exact absurd rfl h
  | b :: l =>
    rw [List.cons_append, pairQ, pairQ]
    rw [pairQ] at h
    by_cases hb : b.toNat ≠ 117
    · rw [if_pos hb, if_pos hb]
    · rw [if_neg hb] at h
      rw [if_neg hb, if_neg hb]
      have h4 : (fourP l).2 ≠ 4 := fun e => by rw [e] at h; exact h rfl
      rw [fourP_more l r h4]
theorem pairP_more (n : Int) (l r : List UInt8) (h : (pairP n l).2.2 ≠ 4) : pairP n (l ++ r) = pairP n l := by
  match l with
  | [] => exact absurd rfl h
  | b :: l =>
    rw [List.cons_append, pairP, pairP]
    rw [pairP] at h
    by_cases hb : b.toNat ≠ 92
    · rw [if_pos hb, if_pos hb]
    · rw [if_neg hb] at h
      rw [if_neg hb, if_neg hb]
      exact pairQ_more n l r h
theorem codedP_more (l r : List UInt8) (h : (codedP l).2.2 ≠ 4) : codedP (l ++ r) = codedP l := by
  have h4 : (fourP l).2 ≠ 4 := fun e => by rw [codedP, e] at h; exact h rfl
  rw [codedP, codedP, fourP_more l r h4]
  rw [codedP] at h
  by_cases h1 : (fourP l).2 ≠ 0
  · rw [if_pos h1, if_pos h1]
  · rw [if_neg h1] at h
    rw [if_neg h1, if_neg h1]
    by_cases h2 : (fourP l).1 < 55296 ∨ 57343 < (fourP l).1
    · rw [if_pos h2, if_pos h2]
    · rw [if_neg h2] at h
      rw [if_neg h2, if_neg h2]
      by_cases h3 : 56320 ≤ (fourP l).1
      · rw [if_pos h3, if_pos h3]
      · rw [if_neg h3] at h
        rw [if_neg h3, if_neg h3]
        have hl := (fourP_bd l (by simpa using h1)).2.2
        rw [List.drop_append_of_le_length hl]
        exact pairP_more _ _ r h
theorem pairQ_take (n : Int) (l : List UInt8) (m : Nat) (hm : 5 ≤ m) (h : (pairQ n l).2.2 = 0) : pairQ n (l.take m) = pairQ n l := by
  match l, m with
  | [], _ => rw [List.take_nil]
  | _ :: _, 0 => omega
  | b :: l, m + 1 =>
    rw [List.take_succ_cons, pairQ, pairQ]
    rw [pairQ] at h
    by_cases hb : b.toNat ≠ 117
    · rw [if_pos hb, if_pos hb]
    · rw [if_neg hb] at h
      rw [if_neg hb, if_neg hb]
      have h4 : (fourP l).2 = 0 := by
        by_cases e : (fourP l).2 ≠ 0
        · rw [if_pos e] at h; exact h
        · simpa using e
      rw [fourP_take l m (by omega) h4]
theorem pairP_take (n : Int) (l : List UInt8) (m : Nat) (hm : 6 ≤ m) (h : (pairP n l).2.2 = 0) : pairP n (l.take m) = pairP n l := by
  match l, m with
  | [], _ => rw [List.take_nil]
  | _ :: _, 0 => omega
  | b :: l, m + 1 =>
    rw [List.take_succ_cons, pairP, pairP]
    rw [pairP] at h
    by_cases hb : b.toNat ≠ 92
    · rw [if_pos hb, if_pos hb]
    · rw [if_neg hb] at h
      rw [if_neg hb, if_neg hb]
      exact pairQ_take n l m (by omega) h
theorem codedP_take (l : List UInt8) (m : Nat) (h : (codedP l).2.2 = 0) (hm : (codedP l).2.1 ≤ m) : codedP (l.take m) = codedP l := by
  have hm4 : 4 ≤ m := by have := codedP_ok l h; omega
  have h4 : (fourP l).2 = 0 := by
    by_cases e : (fourP l).2 ≠ 0
    · rw [codedP, if_pos e] at h; exact h
    · simpa using e
  have hn : ¬ (fourP l).2 ≠ 0 := by simp [h4]
  rw [codedP, codedP, fourP_take l m hm4 h4, if_neg hn, if_neg hn]
  rw [codedP, if_neg hn] at h hm
  by_cases h2 : (fourP l).1 < 55296 ∨ 57343 < (fourP l).1
  · rw [if_pos h2, if_pos h2]
  · rw [if_neg h2] at h hm
    rw [if_neg h2, if_neg h2]
    by_cases h3 : 56320 ≤ (fourP l).1
    · rw [if_pos h3, if_pos h3]
    · rw [if_neg h3] at h hm
      rw [if_neg h3, if_neg h3]
      have h10 := pairP_ok _ _ (by omega) (by omega) h
      rw [List.drop_take]
      exact pairP_take _ _ _ (by omega) h
theorem escP_more (l r : List UInt8) (h : (escP l).2.2 ≠ 4) : escP (l ++ r) = escP l := by
  match l with
  | [] => exact absurd rfl h
  | c :: l =>
    rw [List.cons_append, escP, escP]
    rw [escP] at h
    by_cases hu : c.toNat = 117
    · rw [if_pos hu] at h
      rw [if_pos hu, if_pos hu]
      have h4 : (codedP l).2.2 ≠ 4 := fun e => by rw [e] at h; exact h rfl
      rw [codedP_more l r h4]
    · rw [if_neg hu, if_neg hu]
theorem escP_take (l : List UInt8) (m : Nat) (h : (escP l).2.2 = 0) (hm : (escP l).2.1 ≤ m) : escP (l.take m) = escP l := by
  match l, m with
  | [], _ => rw [List.take_nil]
  | c :: l, 0 => have := escP_ok _ h; omega
  | c :: l, m + 1 =>
    rw [List.take_succ_cons, escP, escP]
    rw [escP] at h hm
    by_cases hu : c.toNat = 117
    · rw [if_pos hu] at h hm
      rw [if_pos hu, if_pos hu]
      by_cases e : (codedP l).2.2 ≠ 0
      · rw [if_pos e] at h; exact absurd h e
      · rw [if_neg e] at hm
        rw [codedP_take l m (by simpa using e) (by simpa using hm)]
    · rw [if_neg hu, if_neg hu]
theorem contP_more : ∀ (j m lw hg : Nat) (l r : List UInt8), (contP j m lw hg l).2 ≠ 4 → contP j m lw hg (l ++ r) = contP j m lw hg l
  | 0, _, _, _, _, _, _ => by rw [contP, contP]
  | _ + 1, _, _, _, [], _, h => absurd rfl h
  | j + 1, m, lw, hg, d :: l, r, h => by
    rw [List.cons_append, contP, contP]
    rw [contP] at h
    by_cases hd : d.toNat < lw ∨ hg < d.toNat
    · rw [if_pos hd, if_pos hd]
    · rw [if_neg hd] at h
      rw [if_neg hd, if_neg hd]
      exact contP_more j _ _ _ l r h
theorem contP_take : ∀ (j m lw hg : Nat) (l : List UInt8) (k : Nat), j ≤ k → (contP j m lw hg l).2 = 0 → contP j m lw hg (l.take k) = contP j m lw hg l
  | 0, _, _, _, _, _, _, _ => by rw [contP, contP]
  | _ + 1, _, _, _, [], _, _, _ => by rw [List.take_nil]
  | _ + 1, _, _, _, _ :: _, 0, hk, _ => by omega
  | j + 1, m, lw, hg, d :: l, k + 1, hk, h => by
    rw [List.take_succ_cons, contP, contP]
    rw [contP] at h
    by_cases hd : d.toNat < lw ∨ hg < d.toNat
    · rw [if_pos hd, if_pos hd]
    · rw [if_neg hd] at h
      rw [if_neg hd, if_neg hd]
      exact contP_take j _ _ _ l k (by omega) h
theorem contR_err (n : Nat) (p : Nat × Int) : (contR n p).2.2 = p.2 := by
  unfold contR
  by_cases h : p.2 = 0
  · rw [if_pos h]; exact h.symm
  · rw [if_neg h]
theorem contR_size (n : Nat) (p : Nat × Int) (h : p.2 = 0) : (contR n p).2.1 = n := by
  unfold contR
  rw [if_pos h]
/-- A rune of more than one byte, by its first byte. -/
theorem next_cont (c : UInt8) (h0 : ¬ c.toNat < 194) (h1 : ¬ 244 < c.toNat) : ∃ n m lw hg : Nat, ∀ r, nextP (c :: r) = contR (n + 1) (contP n m lw hg r) := by
  by_cases h2 : c.toNat < 224
  · exact ⟨1, _, _, _, fun r => cont2 c r h0 h2⟩
  · by_cases h3 : c.toNat < 240
    · by_cases e1 : c.toNat = 224
      · exact ⟨2, _, _, _, fun r => cont3 c r h2 h3 160 191 (Or.inl ⟨e1, rfl, rfl⟩)⟩
      · by_cases e2 : c.toNat = 237
        · exact ⟨2, _, _, _, fun r => cont3 c r h2 h3 128 159 (Or.inr (Or.inl ⟨e2, rfl, rfl⟩))⟩
        · exact ⟨2, _, _, _, fun r => cont3 c r h2 h3 128 191 (Or.inr (Or.inr ⟨e1, e2, rfl, rfl⟩))⟩
    · by_cases e1 : c.toNat = 240
      · exact ⟨3, _, _, _, fun r => cont4 c r h3 h1 144 191 (Or.inl ⟨e1, rfl, rfl⟩)⟩
      · by_cases e2 : c.toNat = 244
        · exact ⟨3, _, _, _, fun r => cont4 c r h3 h1 128 143 (Or.inr (Or.inl ⟨e2, rfl, rfl⟩))⟩
        · exact ⟨3, _, _, _, fun r => cont4 c r h3 h1 128 191 (Or.inr (Or.inr ⟨e1, e2, rfl, rfl⟩))⟩
theorem nextP_more (l r : List UInt8) (h : (nextP l).2.2 ≠ 4) : nextP (l ++ r) = nextP l := by
  match l with
  | [] => exact absurd (by rfl) h
  | c :: l =>
    rw [List.cons_append]
    by_cases h1 : c.toNat < 128
    · rw [next1 _ h1, next1 _ h1]
    · by_cases h2 : c.toNat < 194 ∨ 244 < c.toNat
      · rw [next_bad _ h1 h2, next_bad _ h1 h2]
      · obtain ⟨n, m, lw, hg, hc⟩ := next_cont c (by omega) (by omega)
        rw [hc, contR_err] at h
        rw [hc, hc, contP_more _ _ _ _ _ _ h]
theorem nextP_take (l : List UInt8) (k : Nat) (h : (nextP l).2.2 = 0) (hk : (nextP l).2.1.toNat ≤ k) : nextP (l.take k) = nextP l := by
  match l, k with
  | [], _ => rw [List.take_nil]
  | c :: l, 0 => have := next_size _ h; omega
  | c :: l, k + 1 =>
    rw [List.take_succ_cons]
    by_cases h1 : c.toNat < 128
    · rw [next1 _ h1, next1 _ h1]
    · by_cases h2 : c.toNat < 194 ∨ 244 < c.toNat
      · rw [next_bad _ h1 h2, next_bad _ h1 h2]
      · obtain ⟨n, m, lw, hg, hc⟩ := next_cont c (by omega) (by omega)
        rw [hc] at h hk
        rw [contR_err] at h
        rw [contR_size _ _ h] at hk
        rw [hc, hc, contP_take _ _ _ _ _ _ (by omega) h]
theorem itemP_more (l r : List UInt8) (h : (itemP l).2.2 ≠ 4) : itemP (l ++ r) = itemP l := by
  match l with
  | [] => exact absurd rfl h
  | c :: l =>
    rw [List.cons_append, itemP, itemP]
    rw [itemP] at h
    by_cases h1 : c.toNat < 32
    · rw [if_pos h1, if_pos h1]
    · rw [if_neg h1] at h
      rw [if_neg h1, if_neg h1]
      by_cases h2 : c.toNat ≠ 92
      · rw [if_pos h2] at h
        rw [if_pos h2, if_pos h2]
        have h4 : (nextP (c :: l)).2.2 ≠ 4 := fun e => by rw [e] at h; exact h rfl
        have := nextP_more (c :: l) r h4
        rw [List.cons_append] at this
        rw [this]
      · rw [if_neg h2] at h
        rw [if_neg h2, if_neg h2]
        have h4 : (escP l).2.2 ≠ 4 := fun e => by rw [e] at h; exact h rfl
        rw [escP_more l r h4]
theorem itemP_take (l : List UInt8) (k : Nat) (h : (itemP l).2.2 = 0) (hk : (itemP l).2.1 ≤ k) : itemP (l.take k) = itemP l := by
  match l, k with
  | [], _ => rw [List.take_nil]
  | c :: l, 0 => have := itemP_ok _ h; omega
  | c :: l, k + 1 =>
    rw [List.take_succ_cons, itemP, itemP]
    rw [itemP] at h hk
    by_cases h1 : c.toNat < 32
    · rw [if_pos h1, if_pos h1]
    · rw [if_neg h1] at h hk
      rw [if_neg h1, if_neg h1]
      by_cases h2 : c.toNat ≠ 92
      · rw [if_pos h2] at h hk
        rw [if_pos h2, if_pos h2]
        by_cases e : (nextP (c :: l)).2.2 ≠ 0
        · rw [if_pos e] at h; exact absurd h e
        · rw [if_neg e] at hk
          have := nextP_take (c :: l) (k + 1) (by simpa using e) (by simpa using hk)
          rw [List.take_succ_cons] at this
          rw [this]
      · rw [if_neg h2] at h hk
        rw [if_neg h2, if_neg h2]
        by_cases e : (escP l).2.2 ≠ 0
        · rw [if_pos e] at h; exact absurd h e
        · rw [if_neg e] at hk
          rw [escP_take l k (by simpa using e) (by simpa using hk)]

/-! Strings. -/
def strQ (l out : List UInt8) : List UInt8 × Nat × Int := strGo l.length l out
def strT (out' : List UInt8 × Nat × Int) (n : Nat) : List UInt8 × Nat × Int := if out'.2.2 ≠ 0 then ([], 0, out'.2.2) else (out'.1, out'.2.1 + n, 0)
theorem strQ_nil (out : List UInt8) : strQ [] out = ([], 0, 4) := rfl
theorem strQ_step (c : UInt8) (r out : List UInt8) :
    strQ (c :: r) out = if c.toNat = 34 then (out, 1, 0) else if (itemP (c :: r)).2.2 ≠ 0 then ([], 0, (itemP (c :: r)).2.2) else if 4096 < out.length + (encP (itemP (c :: r)).1).length then ([], 0, 5)
      else strT (strQ ((c :: r).drop (itemP (c :: r)).2.1) (out ++ encP (itemP (c :: r)).1)) (itemP (c :: r)).2.1 := by
  rw [strQ, strGo_step _ _ _ _ (Nat.le_refl _)]
  by_cases h1 : c.toNat = 34
  · rw [if_pos h1, if_pos h1]
  · rw [if_neg h1, if_neg h1]
    by_cases h2 : (itemP (c :: r)).2.2 ≠ 0
    · rw [if_pos h2, if_pos h2]
    · rw [if_neg h2, if_neg h2]
      have hf := strGo_fuel (c :: r).length ((c :: r).drop (itemP (c :: r)).2.1).length ((c :: r).drop (itemP (c :: r)).2.1) (out ++ encP (itemP (c :: r)).1) (by rw [List.length_drop]; omega) (Nat.le_refl _)
      rw [hf]
      rfl
theorem strT_err (x : List UInt8 × Nat × Int) (n : Nat) : (strT x n).2.2 = x.2.2 := by
  unfold strT
  by_cases h : x.2.2 ≠ 0
  · rw [if_pos h]
  · rw [if_neg h]; simpa using (show x.2.2 = 0 by simpa using h).symm
theorem strQ_more (r : List UInt8) : ∀ (n : Nat) (l out : List UInt8), l.length ≤ n → (strQ l out).2.2 ≠ 4 → strQ (l ++ r) out = strQ l out
  | _, [], _, _, h => absurd rfl h
  | 0, _ :: _, _, hn, _ => by simp at hn
  | n + 1, c :: l, out, hn, h => by
    rw [List.cons_append, strQ_step, strQ_step]
    rw [strQ_step] at h
    by_cases h1 : c.toNat = 34
    · rw [if_pos h1, if_pos h1]
    · rw [if_neg h1] at h
      rw [if_neg h1, if_neg h1]
      have h4 : (itemP (c :: l)).2.2 ≠ 4 := fun e => by rw [e] at h; exact h rfl
      have hi := itemP_more (c :: l) r h4
      rw [List.cons_append] at hi
      rw [hi]
      by_cases h2 : (itemP (c :: l)).2.2 ≠ 0
      · rw [if_pos h2, if_pos h2]
      · rw [if_neg h2] at h
        rw [if_neg h2, if_neg h2]
        obtain ⟨_, b, d⟩ := itemP_ok (c :: l) (by simpa using h2)
        by_cases h3 : 4096 < out.length + (encP (itemP (c :: l)).1).length
        · rw [if_pos h3, if_pos h3]
        · rw [if_neg h3, strT_err] at h
          rw [if_neg h3, if_neg h3]
          have hd : (c :: (l ++ r)).drop (itemP (c :: l)).2.1 = (c :: l).drop (itemP (c :: l)).2.1 ++ r := by
            rw [← List.cons_append, List.drop_append_of_le_length d]
          rw [hd, strQ_more r n _ _ (by rw [List.length_drop]; simp at hn ⊢; omega) h]
theorem strQ_take : ∀ (n : Nat) (l out : List UInt8) (k : Nat), l.length ≤ n → (strQ l out).2.2 = 0 → (strQ l out).2.1 ≤ k → strQ (l.take k) out = strQ l out
  | _, [], _, _, _, _, _ => by rw [List.take_nil]
  | 0, _ :: _, _, _, hn, _, _ => by simp at hn
  | n + 1, c :: l, out, 0, hn, h, hk => by have := strGo_ok _ _ _ h; unfold strQ at hk; omega
  | n + 1, c :: l, out, k + 1, hn, h, hk => by
    rw [List.take_succ_cons, strQ_step, strQ_step]
    rw [strQ_step] at h hk
    by_cases h1 : c.toNat = 34
    · rw [if_pos h1, if_pos h1]
    · rw [if_neg h1] at h hk
      rw [if_neg h1, if_neg h1]
      by_cases h2 : (itemP (c :: l)).2.2 ≠ 0
      · rw [if_pos h2] at h; exact absurd h h2
      · rw [if_neg h2] at h hk
        obtain ⟨_, b, d⟩ := itemP_ok (c :: l) (by simpa using h2)
        by_cases h3 : 4096 < out.length + (encP (itemP (c :: l)).1).length
        · rw [if_pos h3] at h; simp at h
        · rw [if_neg h3, strT_err] at h
          rw [if_neg h3, strT, if_neg (by simpa using h)] at hk
          simp only [] at hk
          have hi := itemP_take (c :: l) (k + 1) (by simpa using h2) (by omega)
          rw [List.take_succ_cons] at hi
          rw [hi, if_neg h2, if_neg h2, if_neg h3, if_neg h3]
          have hd : (c :: l.take k).drop (itemP (c :: l)).2.1 = ((c :: l).drop (itemP (c :: l)).2.1).take (k + 1 - (itemP (c :: l)).2.1) := by
            rw [← List.take_succ_cons, List.drop_take]
          rw [hd, strQ_take n _ _ _ (by rw [List.length_drop]; simp at hn ⊢; omega) h (by omega)]

/-! Marks. -/
/-- What is behind a mark, if anything, begins with a blank. -/
def Ahead (r : List UInt8) : Prop := ∀ c r', r = c :: r' → isBlank c = true
theorem ahead_nil : Ahead [] := fun c r' h => by cases h
theorem ahead_cons {c : UInt8} (r : List UInt8) (h : isBlank c = true) : Ahead (c :: r) := fun c' r' e => by cases e; exact h
theorem blank_cases {c : UInt8} (h : isBlank c = true) : c.toNat = 32 ∨ c.toNat = 9 ∨ c.toNat = 10 ∨ c.toNat = 13 := by
  simp [isBlank] at h
  omega
theorem blank_isN {c : UInt8} (h : isBlank c = true) : Nm.isN c = false := by
  have := blank_cases h
  simp [Nm.isN, Nm.dg]
  omega
theorem blank_isLow {c : UInt8} (h : isBlank c = true) : isLow c = false := by
  have := blank_cases h
  simp [isLow]
  omega
theorem tw_more {p : UInt8 → Bool} : ∀ (l r : List UInt8), (∀ c r', r = c :: r' → p c = false) → (l ++ r).takeWhile p = l.takeWhile p
  | [], [], _ => rfl
  | [], c :: r, h => by simp [h c r rfl]
  | c :: l, r, h => by
    rw [List.cons_append, List.takeWhile_cons, List.takeWhile_cons, tw_more l r h]
theorem tw_take {p : UInt8 → Bool} : ∀ (l : List UInt8), l.take (l.takeWhile p).length = l.takeWhile p
  | [] => rfl
  | c :: l => by
    rw [List.takeWhile_cons]
    by_cases h : p c = true
    · rw [if_pos h, List.length_cons, List.take_succ_cons, tw_take l]
    · rw [if_neg h]; rfl
theorem tw_idem {p : UInt8 → Bool} : ∀ (l : List UInt8), (l.takeWhile p).takeWhile p = l.takeWhile p
  | [] => rfl
  | c :: l => by
    by_cases h : p c = true
    · rw [List.takeWhile_cons, if_pos h, List.takeWhile_cons, if_pos h, tw_idem l]
    · rw [List.takeWhile_cons, if_neg h]; rfl
theorem numP_of {l r : List UInt8} (h : r.takeWhile Nm.isN = l.takeWhile Nm.isN) : numP r = numP l := by unfold numP; rw [h]
theorem wordP_of {l r : List UInt8} (h : r.takeWhile isLow = l.takeWhile isLow) : wordP r = wordP l := by unfold wordP; rw [h]
theorem textP_eq (r : List UInt8) : textP r = if (strQ r []).2.2 ≠ 0 then .bad (strQ r []).2.2 else ⟨10, (strQ r []).2.1 + 1, 0, (strQ r []).1, 0⟩ := rfl
theorem textP_e (r : List UInt8) : (textP r).e = (strQ r []).2.2 := by
  rw [textP_eq]
  by_cases h : (strQ r []).2.2 ≠ 0
  · rw [if_pos h]; rfl
  · rw [if_neg h]; simpa using (show (strQ r []).2.2 = 0 by simpa using h).symm
theorem textP_len (r : List UInt8) (h : (textP r).e = 0) : (textP r).len = (strQ r []).2.1 + 1 := by
  rw [textP_e] at h
  rw [textP_eq, if_neg (by simpa using h)]
theorem tokP_more (l r : List UInt8) (hl : l ≠ []) (hr : Ahead r) (h : (tokP l).e ≠ 4) : tokP (l ++ r) = tokP l := by
  match l, hl with
  | c :: l, _ =>
    rw [List.cons_append, tokP, tokP]
    rw [tokP] at h
    by_cases h1 : signOf c ≠ 0
    · rw [if_pos h1, if_pos h1]
    · rw [if_neg h1] at h
      rw [if_neg h1, if_neg h1]
      by_cases h2 : c.toNat = 34
      · rw [if_pos h2, textP_e] at h
        rw [if_pos h2, if_pos h2, textP_eq, textP_eq, strQ_more r _ l [] (Nat.le_refl _) h]
      · rw [if_neg h2, if_neg h2]
        by_cases h3 : numFirst c = true
        · rw [if_pos h3, if_pos h3, ← List.cons_append]
          exact numP_of (tw_more _ _ fun c r' e => blank_isN (hr c r' e))
        · rw [if_neg h3, if_neg h3, ← List.cons_append]
          exact wordP_of (tw_more _ _ fun c r' e => blank_isLow (hr c r' e))
theorem numP_ok {l : List UInt8} (h : (numP l).e = 0) : (numP l).len = (l.takeWhile Nm.isN).length ∧ (numP l).k = 9 ∧ (numP l).t = [] ∧ l.takeWhile Nm.isN ≠ [] := by
  unfold numP at h ⊢
  by_cases h1 : Nm.form (l.takeWhile Nm.isN) = false
  · rw [if_pos h1] at h; simp [Tok.bad] at h
  · rw [if_neg h1] at h ⊢
    by_cases h2 : -9223372036854775808 ≤ Nm.val (l.takeWhile Nm.isN) ∧ Nm.val (l.takeWhile Nm.isN) ≤ 9223372036854775807
    · rw [if_pos h2]
      refine ⟨rfl, rfl, rfl, fun e => h1 (by rw [e]; exact form_nil)⟩
    · rw [if_neg h2] at h; simp [Tok.bad] at h
theorem wordP_ok {l : List UInt8} (h : (wordP l).e = 0) : (wordP l).len = (l.takeWhile isLow).length ∧ ((wordP l).k = 7 ∨ (wordP l).k = 8) ∧ (wordP l).n = 0 ∧ (wordP l).t = [] ∧ l.takeWhile isLow ≠ [] := by
  unfold wordP at h ⊢
  by_cases h1 : l.takeWhile isLow = [116, 114, 117, 101]
  · rw [if_pos h1, h1]; simp
  · rw [if_neg h1] at h ⊢
    by_cases h2 : l.takeWhile isLow = [102, 97, 108, 115, 101]
    · rw [if_pos h2, h2]; simp
    · rw [if_neg h2] at h; simp [Tok.bad] at h
theorem tw_len {p : UInt8 → Bool} (l : List UInt8) : (l.takeWhile p).length ≤ l.length := (List.takeWhile_sublist p).length_le
theorem signOf_bd (c : UInt8) : 0 ≤ signOf c ∧ signOf c ≤ 6 := by
  unfold signOf
  repeat' split
  all_goals omega
/-- What marks are like. -/
theorem tokP_ok {l : List UInt8} (hl : l ≠ []) (h : (tokP l).e = 0) : 1 ≤ (tokP l).len ∧ (tokP l).len ≤ l.length ∧ 1 ≤ (tokP l).k ∧ (tokP l).k ≤ 10 ∧ ((tokP l).k ≠ 9 → (tokP l).n = 0) ∧ ((tokP l).k ≠ 10 → (tokP l).t = []) := by
  match l, hl with
  | c :: l, _ =>
    rw [tokP] at h ⊢
    by_cases h1 : signOf c ≠ 0
    · have := signOf_bd c
      rw [if_pos h1]
      exact ⟨by simp, by simp, by simp only []; omega, by simp only []; omega, fun _ => rfl, fun _ => rfl⟩
    · rw [if_neg h1] at h ⊢
      by_cases h2 : c.toNat = 34
      · rw [if_pos h2] at h ⊢
        have hlen := textP_len _ h
        rw [textP_e] at h
        have hok := strGo_ok _ _ _ h
        have e : textP l = ⟨10, (strQ l []).2.1 + 1, 0, (strQ l []).1, 0⟩ := by rw [textP_eq, if_neg (by simpa using h)]
        rw [hlen, e]
        unfold strQ
        simp only [List.length_cons]
        exact ⟨by omega, by omega, by omega, by omega, fun _ => trivial, fun hh => by simp at hh⟩
      · rw [if_neg h2] at h ⊢
        by_cases h3 : numFirst c = true
        · rw [if_pos h3] at h ⊢
          obtain ⟨a1, a2, a3, a4⟩ := numP_ok h
          have hle := tw_len (p := Nm.isN) (c :: l)
          have hpos := List.length_pos_iff.2 a4
          rw [a1, a2]
          exact ⟨hpos, hle, by omega, by omega, fun hh => absurd rfl hh, fun _ => a3⟩
        · rw [if_neg h3] at h ⊢
          obtain ⟨a1, a2, a3, a4, a5⟩ := wordP_ok h
          have hle := tw_len (p := isLow) (c :: l)
          have hpos := List.length_pos_iff.2 a5
          rw [a1]
          exact ⟨hpos, hle, by omega, by omega, fun _ => a3, fun _ => a4⟩
theorem take_head {l : List UInt8} {k : Nat} (h : 1 ≤ k) (hl : l ≠ []) : ∃ c r, l = c :: r ∧ l.take k = c :: r.take (k - 1) := by
  match l, k, hl with
  | c :: r, k + 1, _ => exact ⟨c, r, rfl, rfl⟩
/-- A mark's own bytes are that mark. -/
theorem tokP_take {l : List UInt8} (hl : l ≠ []) (h : (tokP l).e = 0) : tokP (l.take (tokP l).len) = tokP l := by
  obtain ⟨hk, _⟩ := tokP_ok hl h
  match l, hl with
  | c :: l, _ =>
    obtain ⟨k, hk2⟩ : ∃ k, (tokP (c :: l)).len = k + 1 := ⟨(tokP (c :: l)).len - 1, by omega⟩
    have hk3 := hk2
    rw [hk2, List.take_succ_cons]
    have hT : (c :: l).take (k + 1) = c :: l.take k := rfl
    rw [tokP] at h hk2 ⊢
    rw [tokP]
    by_cases h1 : signOf c ≠ 0
    · rw [if_pos h1, if_pos h1]
    · rw [if_neg h1] at h hk2
      rw [if_neg h1, if_neg h1]
      by_cases h2 : c.toNat = 34
      · rw [if_pos h2] at h hk2
        rw [if_pos h2, if_pos h2]
        rw [textP_len _ h] at hk2
        rw [textP_e] at h
        rw [textP_eq, textP_eq, strQ_take _ l [] k (Nat.le_refl _) h (by omega)]
      · rw [if_neg h2] at h hk2
        rw [if_neg h2, if_neg h2]
        by_cases h3 : numFirst c = true
        · rw [if_pos h3] at h hk2
          rw [if_pos h3, if_pos h3]
          refine numP_of ?_
          rw [← hT, ← hk2, (numP_ok h).1, tw_take, tw_idem]
        · rw [if_neg h3] at h hk2
          rw [if_neg h3, if_neg h3]
          refine wordP_of ?_
          rw [← hT, ← hk2, (wordP_ok h).1, tw_take, tw_idem]
/-- A mark's own bytes, with nothing or a blank behind them, are that mark. -/
theorem tokP_alone {l : List UInt8} (hl : l ≠ []) (h : (tokP l).e = 0) (r : List UInt8) (hr : Ahead r) : tokP (l.take (tokP l).len ++ r) = tokP l := by
  have h1 := tokP_take hl h
  obtain ⟨hk, _⟩ := tokP_ok hl h
  obtain ⟨c, r', e1, e2⟩ := take_head hk hl
  rw [tokP_more _ _ (by rw [e2]; simp) hr (by rw [h1, h]; decide), h1]
end

section
/-- A mark at its place. -/
structure Mk where
  k : Int
  a : Nat
  z : Nat
  n : Int
  t : List UInt8
def Tok.at (x : Tok) (p : Nat) : Mk := ⟨x.k, p, p + x.len, x.n, x.t⟩
def Mk.far (m : Mk) (d : Nat) : Mk := ⟨m.k, m.a + d, m.z + d, m.n, m.t⟩
abbrev Res := List Mk × Nat × Int
def consM (ms : List Mk) (R : Res) : Res := if R.2.2 ≠ 0 then ([], R.2.1, R.2.2) else (ms ++ R.1, 0, 0)
def tokB (l : List UInt8) : Tok := tokP (l.drop (blanks l))
def allGo : Nat → List UInt8 → Nat → Res
  | 0, _, _ => ([], 0, 4)
  | f + 1, l, p =>
    if (tokB l).e ≠ 0 then ([], p + blanks l, (tokB l).e)
    else if (tokB l).k = 11 then ([(tokB l).at (p + blanks l)], 0, 0)
    else consM [(tokB l).at (p + blanks l)] (allGo f (l.drop (blanks l + (tokB l).len)) (p + blanks l + (tokB l).len))
def allP (l : List UInt8) (p : Nat) : Res := allGo (l.length + 1) l p

theorem consM_nil (R : Res) (h : R.2.2 = 0 → R.2.1 = 0) (h2 : R.2.2 ≠ 0 → R.1 = []) : consM [] R = R := by
  unfold consM
  obtain ⟨a, b, c⟩ := R
  by_cases e : c ≠ 0
  · rw [if_pos e]; simp at h2 ⊢; exact h2 e
  · rw [if_neg e]
    have e0 : c = 0 := by simpa using e
    subst e0
    simp at h ⊢
    exact h.symm
theorem consM_consM (a b : List Mk) (R : Res) : consM a (consM b R) = consM (a ++ b) R := by
  unfold consM
  by_cases e : R.2.2 ≠ 0
  · rw [if_pos e, if_pos e, if_pos e]
  · rw [if_neg e, if_neg e, if_neg (by simp), List.append_assoc]
theorem consM_err (a : List Mk) (R : Res) : (consM a R).2.2 = R.2.2 := by
  unfold consM
  by_cases e : R.2.2 ≠ 0
  · rw [if_pos e]
  · rw [if_neg e]; simpa using (show R.2.2 = 0 by simpa using e).symm
theorem blanks_le (l : List UInt8) : blanks l ≤ l.length := tw_len l
theorem blanks_head (l : List UInt8) : ∀ c r, l.drop (blanks l) = c :: r → isBlank c = false := by
  induction l with
  | nil => intro c r h; cases h
  | cons a l ih =>
    intro c r h
    unfold blanks at h ih
    by_cases ha : isBlank a = true
    · rw [List.takeWhile_cons, if_pos ha, List.length_cons, List.drop_succ_cons] at h
      exact ih c r h
    · rw [List.takeWhile_cons, if_neg ha] at h
      simp at h
      rw [← h.1]; simpa using ha
theorem blanks_zero {c : UInt8} (r : List UInt8) (h : isBlank c = false) : blanks (c :: r) = 0 := by simp [blanks, h]
theorem blanks_all (b : List UInt8) (h : ∀ c ∈ b, isBlank c = true) (l : List UInt8) : blanks (b ++ l) = b.length + blanks l := by
  induction b with
  | nil => simp
  | cons c b ih =>
    have := ih (fun x hx => h x (by simp [hx]))
    unfold blanks at this ⊢
    rw [List.cons_append, List.takeWhile_cons, if_pos (h c (by simp)), List.length_cons, this, List.length_cons]
    omega
theorem blanks_take (l : List UInt8) : ∀ c ∈ l.take (blanks l), isBlank c = true := by
  unfold blanks
  rw [tw_take]
  exact fun c hc => List.all_eq_true.1 List.all_takeWhile c hc
theorem blanks_split (l : List UInt8) : l = l.take (blanks l) ++ l.drop (blanks l) := (List.take_append_drop _ _).symm
theorem tokP_nil : tokP [] = ⟨11, 0, 0, [], 0⟩ := rfl
/-- The end, or not. -/
theorem tok_end {l : List UInt8} (h : (tokP l).e = 0) : (tokP l).k = 11 ↔ l = [] := by
  constructor
  · intro hk
    by_cases hl : l = []
    · exact hl
    · have := tokP_ok hl h; omega
  · rintro rfl; rfl
theorem allGo_fuel : ∀ (f g : Nat) (l : List UInt8) (p : Nat), l.length < f → l.length < g → allGo f l p = allGo g l p
  | 0, _, _, _, h, _ => by omega
  | _ + 1, 0, _, _, _, h => by omega
  | f + 1, g + 1, l, p, hf, hg => by
    rw [allGo, allGo]
    by_cases h1 : (tokB l).e ≠ 0
    · rw [if_pos h1, if_pos h1]
    · rw [if_neg h1, if_neg h1]
      by_cases h2 : (tokB l).k = 11
      · rw [if_pos h2, if_pos h2]
      · rw [if_neg h2, if_neg h2]
        have h0 : (tokB l).e = 0 := by simpa using h1
        have hne : l.drop (blanks l) ≠ [] := fun e => h2 (by unfold tokB; rw [e]; rfl)
        obtain ⟨a, b, _⟩ := tokP_ok hne h0
        rw [List.length_drop] at b
        have a' : 1 ≤ (tokB l).len := a
        have b' : (tokB l).len ≤ l.length - blanks l := b
        rw [allGo_fuel f g _ _ (by rw [List.length_drop]; omega) (by rw [List.length_drop]; omega)]
theorem allP_step (l : List UInt8) (p : Nat) : allP l p =
    if (tokB l).e ≠ 0 then ([], p + blanks l, (tokB l).e)
    else if (tokB l).k = 11 then ([(tokB l).at (p + blanks l)], 0, 0)
    else consM [(tokB l).at (p + blanks l)] (allP (l.drop (blanks l + (tokB l).len)) (p + blanks l + (tokB l).len)) := by
  rw [allP, allGo]
  by_cases h1 : (tokB l).e ≠ 0
  · rw [if_pos h1, if_pos h1]
  · rw [if_neg h1, if_neg h1]
    by_cases h2 : (tokB l).k = 11
    · rw [if_pos h2, if_pos h2]
    · rw [if_neg h2, if_neg h2]
      have h0 : (tokB l).e = 0 := by simpa using h1
      have hne : l.drop (blanks l) ≠ [] := fun e => h2 (by unfold tokB; rw [e]; rfl)
      obtain ⟨a, b, _⟩ := tokP_ok hne h0
      rw [List.length_drop] at b
      have a' : 1 ≤ (tokB l).len := a
      have b' : (tokB l).len ≤ l.length - blanks l := b
      rw [allP, allGo_fuel l.length _ _ _ (by rw [List.length_drop]; omega) (Nat.lt_succ_self _)]
/-- What stands at the head: an error, the end, or a mark. -/
theorem all_cases (l : List UInt8) (p : Nat) :
    ((tokB l).e ≠ 0 ∧ allP l p = ([], p + blanks l, (tokB l).e)) ∨
    (l.drop (blanks l) = [] ∧ blanks l = l.length ∧ allP l p = ([⟨11, p + l.length, p + l.length, 0, []⟩], 0, 0)) ∨
    (l.drop (blanks l) ≠ [] ∧ (tokB l).e = 0 ∧ (tokB l).k ≠ 11 ∧ 1 ≤ (tokB l).len ∧ blanks l + (tokB l).len ≤ l.length ∧
      allP l p = consM [(tokB l).at (p + blanks l)] (allP (l.drop (blanks l + (tokB l).len)) (p + blanks l + (tokB l).len))) := by
  rw [allP_step]
  by_cases h1 : (tokB l).e ≠ 0
  · left; rw [if_pos h1]; exact ⟨h1, rfl⟩
  · right
    rw [if_neg h1]
    have h0 : (tokB l).e = 0 := by simpa using h1
    by_cases h2 : (tokB l).k = 11
    · left
      rw [if_pos h2]
      have e := (tok_end h0).1 h2
      have e2 : blanks l = l.length := by
        have := congrArg List.length e
        rw [List.length_drop, List.length_nil] at this
        have := blanks_le l
        omega
      refine ⟨e, e2, ?_⟩
      unfold tokB Tok.at
      rw [e, tokP_nil, e2]; rfl
    · right
      rw [if_neg h2]
      have hne : l.drop (blanks l) ≠ [] := fun e => h2 (by unfold tokB; rw [e]; rfl)
      obtain ⟨a, b, _⟩ := tokP_ok hne h0
      rw [List.length_drop] at b
      have a' : 1 ≤ (tokB l).len := a
      have b' : (tokB l).len ≤ l.length - blanks l := b
      have := blanks_le l
      exact ⟨hne, h0, h2, a', by omega, rfl⟩
/-- The last one is the end; the places. -/
def shiftR (d : Nat) (R : Res) : Res := (R.1.map (·.far d), if R.2.2 = 0 then R.2.1 else R.2.1 + d, R.2.2)
theorem all_norm : ∀ (n : Nat) (l : List UInt8) (p : Nat), l.length ≤ n → ((allP l p).2.2 = 0 → (allP l p).2.1 = 0) ∧ ((allP l p).2.2 ≠ 0 → (allP l p).1 = [] ∧ p ≤ (allP l p).2.1 ∧ (allP l p).2.1 ≤ p + l.length) := by
  intro n
  induction n with
  | zero =>
    intro l p hn
    obtain rfl : l = [] := List.length_eq_zero_iff.1 (by omega)
    rcases all_cases [] p with ⟨h, e⟩ | ⟨h, h2, e⟩ | ⟨h, _⟩
    · exact absurd rfl h
    · rw [e]; exact ⟨fun _ => rfl, fun h => absurd rfl h⟩
    · exact absurd rfl h
  | succ n ih =>
    intro l p hn
    rcases all_cases l p with ⟨h, e⟩ | ⟨h, h2, e⟩ | ⟨h, h2, h3, h4, h5, e⟩
    · rw [e]
      have := blanks_le l
      exact ⟨fun hh => absurd hh h, fun _ => ⟨rfl, by simp, by simp; omega⟩⟩
    · rw [e]; exact ⟨fun _ => rfl, fun h => absurd rfl h⟩
    · rw [e]
      obtain ⟨i1, i2⟩ := ih (l.drop (blanks l + (tokB l).len)) (p + blanks l + (tokB l).len) (by rw [List.length_drop]; omega)
      rw [List.length_drop] at i2
      unfold consM
      by_cases hh : (allP (l.drop (blanks l + (tokB l).len)) (p + blanks l + (tokB l).len)).2.2 ≠ 0
      · rw [if_pos hh]
        obtain ⟨j1, j2, j3⟩ := i2 hh
        exact ⟨fun x => absurd x hh, fun _ => ⟨rfl, by simp only []; omega, by simp only []; omega⟩⟩
      · rw [if_neg hh]
        exact ⟨fun _ => rfl, fun x => absurd rfl x⟩
theorem all_shift (d : Nat) : ∀ (n : Nat) (l : List UInt8) (p : Nat), l.length ≤ n → allP l (p + d) = shiftR d (allP l p) := by
  intro n
  induction n with
  | zero =>
    intro l p hn
    obtain rfl : l = [] := List.length_eq_zero_iff.1 (by omega)
    rcases all_cases [] p with ⟨h, e⟩ | ⟨h, h2, e⟩ | ⟨h, _⟩
    · exact absurd rfl h
    · rcases all_cases [] (p + d) with ⟨h, e'⟩ | ⟨h, h2, e'⟩ | ⟨h, _⟩
      · exact absurd rfl h
      · rw [e, e']; rfl
      · exact absurd rfl h
    · exact absurd rfl h
  | succ n ih =>
    intro l p hn
    have e2 := allP_step l (p + d)
    rcases all_cases l p with ⟨h, e⟩ | ⟨h, h2, e⟩ | ⟨h, h2, h3, h4, h5, e⟩
    · rw [if_pos h] at e2
      rw [e, e2, shiftR]
      simp only [List.map_nil]
      rw [if_neg h, show p + d + blanks l = p + blanks l + d by omega]
    · rcases all_cases l (p + d) with ⟨h', e'⟩ | ⟨_, _, e'⟩ | ⟨h', _⟩
      · unfold tokB at h'; rw [h] at h'; exact absurd rfl h'
      · rw [e, e', shiftR]
        simp only [List.map_cons, List.map_nil, Mk.far, if_true]
        rw [show p + d + l.length = p + l.length + d by omega]
      · exact absurd h h'
    · rw [if_neg (by simpa using h2), if_neg h3] at e2
      rw [e, e2, show p + d + blanks l + (tokB l).len = p + blanks l + (tokB l).len + d by omega, ih _ _ (by rw [List.length_drop]; omega)]
      generalize allP (l.drop (blanks l + (tokB l).len)) (p + blanks l + (tokB l).len) = R
      unfold consM shiftR
      by_cases hh : R.2.2 ≠ 0
      · rw [if_pos hh, if_pos hh]
        have hz : ¬ R.2.2 = 0 := hh
        simp only [hz, if_false, List.map_nil]
      · rw [if_neg hh, if_neg hh]
        simp only [List.map_append, List.map_cons, List.map_nil, Mk.far, Tok.at, if_true]
        rw [show p + d + blanks l = p + blanks l + d by omega, show p + blanks l + d + (tokB l).len = p + blanks l + (tokB l).len + d by omega]
/-- A text, a blank, and another text. -/
theorem blanks_more {l : List UInt8} (h : l.drop (blanks l) ≠ []) (r : List UInt8) : blanks (l ++ r) = blanks l ∧ (l ++ r).drop (blanks l) = l.drop (blanks l) ++ r := by
  have hle := blanks_le l
  refine ⟨?_, List.drop_append_of_le_length hle⟩
  obtain ⟨c, x, hc⟩ : ∃ c x, l.drop (blanks l) = c :: x := by
    cases e : l.drop (blanks l) with
    | nil => exact absurd e h
    | cons c x => exact ⟨c, x, rfl⟩
  have hb := blanks_head l c x hc
  have e1 : l ++ r = l.take (blanks l) ++ (c :: x ++ r) := by
    rw [← hc, ← List.append_assoc, List.take_append_drop]
  rw [e1, blanks_all _ (blanks_take l), List.cons_append, blanks_zero _ hb, List.length_take]
  omega
theorem tokB_more {l : List UInt8} (h : l.drop (blanks l) ≠ []) (r : List UInt8) (hr : Ahead r) (h4 : (tokB l).e ≠ 4) : tokB (l ++ r) = tokB l := by
  obtain ⟨a, b⟩ := blanks_more h r
  unfold tokB
  rw [a, b]
  exact tokP_more _ _ h hr h4
/-- All marks but the end. -/
def inner (ms : List Mk) : List Mk := ms.take (ms.length - 1)
theorem inner_cons (m : Mk) (ms : List Mk) (h : ms ≠ []) : inner (m :: ms) = m :: inner ms := by
  unfold inner
  match ms, h with
  | a :: r, _ => simp
theorem all_ne : ∀ (n : Nat) (l : List UInt8) (p : Nat), l.length ≤ n → (allP l p).2.2 = 0 → (allP l p).1 = inner (allP l p).1 ++ [⟨11, p + l.length, p + l.length, 0, []⟩] ∧ (allP l p).1 ≠ [] := by
  intro n
  induction n with
  | zero =>
    intro l p hn h0
    obtain rfl : l = [] := List.length_eq_zero_iff.1 (by omega)
    rcases all_cases [] p with ⟨h, e⟩ | ⟨h, h2, e⟩ | ⟨h, _⟩
    · exact absurd rfl h
    · rw [e]; exact ⟨rfl, by simp⟩
    · exact absurd rfl h
  | succ n ih =>
    intro l p hn h0
    rcases all_cases l p with ⟨h, e⟩ | ⟨h, h2, e⟩ | ⟨h, h2, h3, h4, h5, e⟩
    · rw [e] at h0; exact absurd h0 h
    · rw [e]; exact ⟨rfl, by simp⟩
    · rw [e] at h0 ⊢
      rw [consM_err] at h0
      obtain ⟨i1, i2⟩ := ih _ _ (by rw [List.length_drop]; omega) h0
      rw [List.length_drop] at i1
      unfold consM
      rw [if_neg (by simpa using h0)]
      simp only [List.singleton_append]
      rw [inner_cons _ _ i2]
      refine ⟨?_, by simp⟩
      rw [List.cons_append, ← show p + blanks l + (tokB l).len + (l.length - (blanks l + (tokB l).len)) = p + l.length by omega, ← i1]
theorem all_parts (s' : List UInt8) (r : List UInt8) (c0 : UInt8) (hs' : s' = c0 :: r) (hc0 : isBlank c0 = true) : ∀ (n : Nat) (l : List UInt8) (p : Nat), l.length ≤ n → (allP l p).2.2 ≠ 4 →
    ((allP l p).2.2 ≠ 0 → allP (l ++ s') p = allP l p) ∧ ((allP l p).2.2 = 0 → allP (l ++ s') p = consM (inner (allP l p).1) (allP r (p + l.length + 1))) := by
  have hnrm := fun p' => all_norm r.length r p' (Nat.le_refl _)
  have hfin : ∀ (l : List UInt8) (p : Nat), blanks l = l.length → allP (l ++ s') p = allP r (p + l.length + 1) := by
    intro l p hb
    have hall : ∀ c ∈ l, isBlank c = true := by
      have := blanks_take l
      rwa [hb, List.take_length] at this
    have hb1 : blanks (l ++ s') = l.length + 1 + blanks r := by
      rw [hs', show l ++ c0 :: r = (l ++ [c0]) ++ r by simp, blanks_all _ (by intro c hc; simp at hc; rcases hc with hc | rfl; exact hall c hc; exact hc0)]
      simp
    have hd : ∀ k, (l ++ s').drop (l.length + 1 + k) = r.drop k := by
      intro k
      rw [hs', show l ++ c0 :: r = (l ++ [c0]) ++ r by simp, show l.length + 1 + k = (l ++ [c0]).length + k by simp, List.drop_append, List.drop_of_length_le (by omega), List.nil_append, Nat.add_sub_cancel_left]
    have ht : tokB (l ++ s') = tokB r := by unfold tokB; rw [hb1, hd]
    rw [allP_step, allP_step r, ht, hb1, show p + (l.length + 1 + blanks r) = p + l.length + 1 + blanks r by omega, show l.length + 1 + blanks r + (tokB r).len = l.length + 1 + (blanks r + (tokB r).len) by omega, hd]
  intro n
  induction n with
  | zero =>
    intro l p hn h4
    obtain rfl : l = [] := List.length_eq_zero_iff.1 (by omega)
    rcases all_cases [] p with ⟨h, e⟩ | ⟨h, h2, e⟩ | ⟨h, _⟩
    · exact absurd rfl h
    · rw [e]
      refine ⟨fun hh => absurd rfl hh, fun _ => ?_⟩
      rw [hfin [] p rfl]
      exact (consM_nil _ (hnrm _).1 (fun h => ((hnrm _).2 h).1)).symm
    · exact absurd rfl h
  | succ n ih =>
    intro l p hn h4
    rcases all_cases l p with ⟨h, e⟩ | ⟨h, h2, e⟩ | ⟨h, h2, h3, h5, h6, e⟩
    · rw [e] at h4 ⊢
      refine ⟨fun _ => ?_, fun hh => absurd hh h⟩
      have hne : l.drop (blanks l) ≠ [] := fun e => h (by unfold tokB; rw [e]; rfl)
      rw [allP_step, tokB_more hne s' (by rw [hs']; exact ahead_cons _ hc0) h4, if_pos h, (blanks_more hne s').1]
    · rw [e]
      refine ⟨fun hh => absurd rfl hh, fun _ => ?_⟩
      rw [hfin l p h2]
      exact (consM_nil _ (hnrm _).1 (fun h => ((hnrm _).2 h).1)).symm
    · rw [e] at h4 ⊢
      rw [consM_err] at h4 ⊢
      obtain ⟨i1, i2⟩ := ih _ _ (by rw [List.length_drop]; omega) h4
      have ht := tokB_more h s' (by rw [hs']; exact ahead_cons _ hc0) (by rw [h2]; decide)
      have hs : allP (l ++ s') p = consM [(tokB l).at (p + blanks l)] (allP (l.drop (blanks l + (tokB l).len) ++ s') (p + blanks l + (tokB l).len)) := by
        rw [allP_step, ht, if_neg (by simpa using h2), if_neg h3, (blanks_more h s').1, List.drop_append_of_le_length h6]
      rw [hs]
      refine ⟨fun hh => by rw [i1 hh], fun hh => ?_⟩
      rw [i2 hh, consM_consM]
      have hz := all_ne _ _ (p + blanks l + (tokB l).len) (Nat.le_refl _) hh
      rw [List.length_drop, show p + blanks l + (tokB l).len + (l.length - (blanks l + (tokB l).len)) + 1 = p + l.length + 1 by omega]
      have : inner (consM [(tokB l).at (p + blanks l)] (allP (l.drop (blanks l + (tokB l).len)) (p + blanks l + (tokB l).len))).1 = [(tokB l).at (p + blanks l)] ++ inner (allP (l.drop (blanks l + (tokB l).len)) (p + blanks l + (tokB l).len)).1 := by
        unfold consM
        rw [if_neg (by simpa using hh)]
        exact inner_cons _ _ hz.2
      rw [this]
end

section
/-- A mark stands at its place. -/
def MarkAt (s : List UInt8) (m : Mk) : Prop := (tokP (s.drop m.a)).e = 0 ∧ m = (tokP (s.drop m.a)).at m.a
/-- Marks stand in a row, from a place on. -/
def RowP (s : List UInt8) : Nat → List Mk → Prop
  | p, [] => p = s.length
  | p, m :: r => p ≤ m.a ∧ m.a ≤ m.z ∧ m.z ≤ s.length ∧ (∀ c ∈ (s.drop p).take (m.a - p), isBlank c = true) ∧ (m.k = 11 ↔ r = []) ∧ 1 ≤ m.k ∧ m.k ≤ 11 ∧ (m.k ≠ 11 → m.a < m.z) ∧ (m.k ≠ 9 → m.n = 0) ∧ (m.k ≠ 10 → m.t = []) ∧ MarkAt s m ∧ RowP s m.z r
theorem consM_ok {ms : List Mk} {R : Res} (h : R.2.2 = 0) : consM ms R = (ms ++ R.1, 0, 0) := by unfold consM; rw [if_neg (by simpa using h)]
theorem all_row (s : List UInt8) : ∀ (n : Nat) (l : List UInt8) (p : Nat), l.length ≤ n → p ≤ s.length → s.drop p = l → (allP l p).2.2 = 0 → RowP s p (allP l p).1 := by
  intro n
  induction n with
  | zero =>
    intro l p hn hp hl h0
    obtain rfl : l = [] := List.length_eq_zero_iff.1 (by omega)
    have hps : p = s.length := by have := congrArg List.length hl; rw [List.length_drop, List.length_nil] at this; omega
    rcases all_cases [] p with ⟨h, e⟩ | ⟨h, h2, e⟩ | ⟨h, _⟩
    · exact absurd rfl h
    · rw [e]
      subst hps
      refine ⟨Nat.le_refl _, Nat.le_refl _, Nat.le_refl _, ?_, by simp, by simp, by simp, fun h => absurd rfl h, fun _ => rfl, fun _ => rfl, ?_, rfl⟩
      · intro c hc
        rw [List.length_nil, Nat.add_zero, Nat.sub_self, List.take_zero] at hc
        cases hc
      · unfold MarkAt
        simp only [List.length_nil, Nat.add_zero]
        rw [List.drop_length, tokP_nil]
        exact ⟨rfl, rfl⟩
    · exact absurd rfl h
  | succ n ih =>
    intro l p hn hp hl h0
    have hlen : l.length = s.length - p := by rw [← hl, List.length_drop]
    have hbl : ∀ c ∈ (s.drop p).take (p + blanks l - p), isBlank c = true := by
      rw [hl, Nat.add_sub_cancel_left]; exact blanks_take l
    have hdr : ∀ k, s.drop (p + k) = l.drop k := fun k => by rw [← hl, List.drop_drop]
    rcases all_cases l p with ⟨h, e⟩ | ⟨h, h2, e⟩ | ⟨h, h2, h3, h4, h5, e⟩
    · rw [e] at h0; exact absurd h0 h
    · rw [e]
      rw [h2] at hbl h
      refine ⟨by simp, Nat.le_refl _, by simp only []; omega, hbl, by simp, by simp, by simp, fun h => absurd rfl h, fun _ => rfl, fun _ => rfl, ?_, by simp only [RowP]; omega⟩
      unfold MarkAt
      simp only []
      rw [hdr, h, tokP_nil]
      exact ⟨rfl, rfl⟩
    · rw [e] at h0 ⊢
      rw [consM_err] at h0
      have hne := all_ne _ _ _ (Nat.le_refl _) h0
      rw [consM_ok h0]
      obtain ⟨k0, k1, k2, k3, k4, k5⟩ := tokP_ok h h2
      have ihh := ih _ _ (by rw [List.length_drop]; omega) (by omega) (by rw [Nat.add_assoc, hdr]) h0
      refine ⟨by simp [Tok.at], by simp [Tok.at], by simp only [Tok.at]; omega, hbl, ?_, k2, by simp only [Tok.at]; exact Int.le_trans k3 (by decide), fun _ => by simp only [Tok.at]; omega, k4, k5, ?_, ihh⟩
      · exact ⟨fun x => absurd x h3, fun x => absurd x hne.2⟩
      · unfold MarkAt
        simp only [Tok.at]
        rw [hdr]
        exact ⟨h2, rfl⟩
theorem tok_blank {c : UInt8} {r : List UInt8} (h : (tokP (c :: r)).e = 0) : isBlank c = false := by
  by_cases hb : isBlank c = true
  · exfalso
    have hc := blank_cases hb
    rw [tokP] at h
    have h1 : signOf c = 0 := by unfold signOf; repeat' split; all_goals omega
    rw [if_neg (by simp [h1]), if_neg (by omega)] at h
    have h3 : numFirst c = false := by
      have := blank_isN hb
      simp only [Nm.isN, Bool.or_eq_false_iff] at this
      simp only [numFirst, Bool.or_eq_false_iff]
      exact ⟨⟨⟨this.1.1.1.1.1, this.1.1.1.1.2⟩, this.1.1.1.2⟩, this.1.1.2⟩
    rw [if_neg (by simp [h3])] at h
    have hw : (c :: r).takeWhile isLow = [] := by rw [List.takeWhile_cons, if_neg (by simp [blank_isLow hb])]
    exact (wordP_ok h).2.2.2.2 hw
  · simpa using hb
theorem blanks_tok {l : List UInt8} (h : (tokP l).e = 0) : blanks l = 0 := by
  match l with
  | [] => rfl
  | c :: r => exact blanks_zero r (tok_blank h)
/-- The next mark from a place on. -/
def nextM (s : List UInt8) (p : Nat) : Mk × Int := if (tokB (s.drop p)).e ≠ 0 then (⟨0, 0, 0, 0, []⟩, (tokB (s.drop p)).e) else ((tokB (s.drop p)).at (p + blanks (s.drop p)), 0)
theorem next_of {s : List UInt8} {m : Mk} (h : MarkAt s m) : nextM s m.a = (m, 0) := by
  unfold nextM tokB
  rw [blanks_tok h.1, List.drop_zero, if_neg (by simpa using h.1), Nat.add_zero, ← h.2]
theorem alone_end : allP [] 0 = ([⟨11, 0, 0, 0, []⟩], 0, 0) := rfl
theorem mark_bytes {s : List UInt8} {m : Mk} (h : MarkAt s m) : m.z - m.a = (tokP (s.drop m.a)).len ∧ m.z = m.a + (tokP (s.drop m.a)).len ∧ m.k = (tokP (s.drop m.a)).k ∧ m.n = (tokP (s.drop m.a)).n ∧ m.t = (tokP (s.drop m.a)).t := by
  have h2 := h.2
  have e1 : m.z = m.a + (tokP (s.drop m.a)).len := congrArg Mk.z h2
  exact ⟨by omega, e1, congrArg Mk.k h2, congrArg Mk.n h2, congrArg Mk.t h2⟩
theorem alone_mark {s : List UInt8} {m : Mk} (h : MarkAt s m) (hk : m.k ≠ 11) : allP ((s.drop m.a).take (m.z - m.a)) 0 = ([⟨m.k, 0, m.z - m.a, m.n, m.t⟩, ⟨11, m.z - m.a, m.z - m.a, 0, []⟩], 0, 0) := by
  obtain ⟨e1, e2, e3, e4, e5⟩ := mark_bytes h
  have hne : s.drop m.a ≠ [] := fun e => hk (by rw [e3, e]; rfl)
  obtain ⟨k0, k1, _⟩ := tokP_ok hne h.1
  have ht := tokP_take hne h.1
  rw [e1, e3, e4, e5]
  have h0 := h.1
  generalize s.drop m.a = l at ht k0 k1 h0 hne e3
  generalize hB : l.take (tokP l).len = B at ht
  have hBl : B.length = (tokP l).len := by rw [← hB, List.length_take]; omega
  have hb : blanks B = 0 := blanks_tok (by rw [ht]; exact h0)
  have hT : tokB B = tokP l := by unfold tokB; rw [hb, List.drop_zero, ht]
  rw [allP_step, hT, if_neg (by simpa using h0), if_neg (by rw [← e3]; exact hk), hb]
  rw [show (0 : Nat) + (tokP l).len = B.length by omega, List.drop_length, hBl]
  have : allP [] (tokP l).len = ([⟨11, (tokP l).len, (tokP l).len, 0, []⟩], 0, 0) := by
    rcases all_cases [] (tokP l).len with ⟨h, e⟩ | ⟨h, h2, e⟩ | ⟨h, _⟩
    · exact absurd rfl h
    · exact e
    · exact absurd rfl h
  rw [this, consM_ok rfl]
  simp [Tok.at]
/-- Marks with blanks ahead of each. -/
def blkT (s b : List UInt8) : List Mk → List UInt8
  | [] => []
  | m :: r => b ++ ((s.drop m.a).take (m.z - m.a) ++ blkT s b r)
def blkM (n : Nat) : Nat → List Mk → List Mk
  | _, [] => []
  | q, m :: r => ⟨m.k, q + n, q + n + (m.z - m.a), m.n, m.t⟩ :: blkM n (q + n + (m.z - m.a)) r
theorem blk_all (s b : List UInt8) (hb : ∀ c ∈ b, isBlank c = true) (hb0 : b ≠ []) : ∀ (ms : List Mk) (p q : Nat), RowP s p ms → ms ≠ [] → allP (blkT s b ms) q = (blkM b.length q ms, 0, 0)
  | [], _, _, _, h => absurd rfl h
  | m :: r, p, q, hr, _ => by
    obtain ⟨r1, r2, r3, r4, r5, r6, r7, r8, r9, r10, r11, r12⟩ := hr
    obtain ⟨e1, e2, e3, e4, e5⟩ := mark_bytes r11
    by_cases hk : m.k = 11
    · obtain rfl := r5.1 hk
      have hnil : s.drop m.a = [] := (tok_end r11.1).1 (by rw [← e3]; exact hk)
      have hz : m.z - m.a = 0 := by rw [e1, hnil]; rfl
      have hbl : blanks b = b.length := by have := blanks_all b hb []; simpa [blanks] using this
      unfold blkT blkT blkM blkM
      rw [hnil, List.take_nil, List.append_nil, List.append_nil, hz]
      rcases all_cases b q with ⟨h, e⟩ | ⟨h, h2, e⟩ | ⟨h, _⟩
      · unfold tokB at h
        rw [hbl, List.drop_length] at h
        exact absurd rfl h
      · rw [e, hk, r9 (by omega), r10 (by omega)]; rfl
      · rw [hbl, List.drop_length] at h
        exact absurd rfl h
    · have hrne : r ≠ [] := fun e => hk (r5.2 e)
      have hne : s.drop m.a ≠ [] := fun e => hk (by rw [e3, e]; rfl)
      obtain ⟨k0, k1, _⟩ := tokP_ok hne r11.1
      have hah : Ahead (blkT s b r) := by
        match r, hrne with
        | m2 :: r2, _ =>
          match b, hb0 with
          | c :: b', _ => exact ahead_cons _ (hb c (by simp))
      have hal := tokP_alone hne r11.1 _ hah
      have hbb := blanks_tok (by rw [hal]; exact r11.1)
      unfold blkT
      rw [e1]
      have hbT : blanks (b ++ ((s.drop m.a).take (tokP (s.drop m.a)).len ++ blkT s b r)) = b.length := by rw [blanks_all b hb, hbb]; rfl
      have hdT : (b ++ ((s.drop m.a).take (tokP (s.drop m.a)).len ++ blkT s b r)).drop b.length = (s.drop m.a).take (tokP (s.drop m.a)).len ++ blkT s b r := by
        rw [List.drop_append_of_le_length (Nat.le_refl _), List.drop_length, List.nil_append]
      have hT : tokB (b ++ ((s.drop m.a).take (tokP (s.drop m.a)).len ++ blkT s b r)) = tokP (s.drop m.a) := by
        unfold tokB
        rw [hbT, hdT, hal]
      have hlt : ((s.drop m.a).take (tokP (s.drop m.a)).len).length = (tokP (s.drop m.a)).len := by rw [List.length_take]; omega
      rw [allP_step, hT, if_neg (by simpa using r11.1), if_neg (by rw [← e3]; exact hk), hbT, ← List.drop_drop, hdT]
      have hdd : ((s.drop m.a).take (tokP (s.drop m.a)).len ++ blkT s b r).drop (tokP (s.drop m.a)).len = blkT s b r := by
        rw [List.drop_append_of_le_length (by omega), List.drop_of_length_le (by omega), List.nil_append]
      rw [hdd, blk_all s b hb hb0 r m.z _ r12 hrne, consM_ok rfl]
      rw [show blkM b.length q (m :: r) = ⟨m.k, q + b.length, q + b.length + (m.z - m.a), m.n, m.t⟩ :: blkM b.length (q + b.length + (m.z - m.a)) r from rfl]
      rw [e1, e3, e4, e5]
      rfl
end
end Go.Proofs.YtfdecbfcddkoiaaGreatDoor
