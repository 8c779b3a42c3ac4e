/-
  What stands at the head of bytes does not hang on what is behind it (plain).
-/
import Derived.Test.YtkflnbmbkilicaaDoorUtfNext
namespace Go.Proofs.YtkflnbmbkilicaaDoor

theorem fourGo_more : ∀ (k : Nat) (n : Int) (l r : List UInt8), (fourGo k n l).2 ≠ 4 → fourGo k n (l ++ r) = fourGo k n l
  | 0, _, _, _, _ => by rw [fourGo, fourGo]
  | _ + 1, _, [], _, h => absurd rfl h
  | k + 1, n, c :: l, r, h => by
    rw [List.cons_append, fourGo, fourGo]
    rw [fourGo] at h
    by_cases hc : hexV c < 0
    · rw [if_pos hc, if_pos hc]
    · rw [if_neg hc] at h
      rw [if_neg hc, if_neg hc]
      exact fourGo_more k _ l r h
theorem fourGo_take : ∀ (k : Nat) (n : Int) (l : List UInt8) (m : Nat), k ≤ m → (fourGo k n l).2 = 0 → fourGo k n (l.take m) = fourGo k n l
  | 0, _, _, _, _, _ => by rw [fourGo, fourGo]
  | _ + 1, _, [], _, _, _ => by rw [List.take_nil]
  | k + 1, n, c :: l, 0, hm, _ => by omega
  | k + 1, n, c :: l, m + 1, hm, h => by
    rw [List.take_succ_cons, fourGo, fourGo]
    rw [fourGo] at h
    by_cases hc : hexV c < 0
    · rw [if_pos hc, if_pos hc]
    · rw [if_neg hc] at h
      rw [if_neg hc, if_neg hc]
      exact fourGo_take k _ l m (by omega) h
theorem fourP_more (l r : List UInt8) (h : (fourP l).2 ≠ 4) : fourP (l ++ r) = fourP l := fourGo_more 4 0 l r h
theorem fourP_take (l : List UInt8) (m : Nat) (hm : 4 ≤ m) (h : (fourP l).2 = 0) : fourP (l.take m) = fourP l := fourGo_take 4 0 l m hm h
theorem pairQ_more (n : Int) (l r : List UInt8) (h : (pairQ n l).2.2 ≠ 4) : pairQ n (l ++ r) = pairQ n l := by
  match l with
  | [] => exact absurd rfl h
  | b :: l =>
    rw [List.cons_append, pairQ, pairQ]
    rw [pairQ] at h
    by_cases hb : b.toNat ≠ 117
    · rw [if_pos hb, if_pos hb]
    · rw [if_neg hb] at h
      rw [if_neg hb, if_neg hb]
      have h4 : (fourP l).2 ≠ 4 := fun e => by rw [e] at h; exact h rfl
      rw [fourP_more l r h4]
theorem pairP_more (n : Int) (l r : List UInt8) (h : (pairP n l).2.2 ≠ 4) : pairP n (l ++ r) = pairP n l := by
  match l with
  | [] => exact absurd rfl h
  | b :: l =>
    rw [List.cons_append, pairP, pairP]
    rw [pairP] at h
    by_cases hb : b.toNat ≠ 92
    · rw [if_pos hb, if_pos hb]
    · rw [if_neg hb] at h
      rw [if_neg hb, if_neg hb]
      exact pairQ_more n l r h
theorem codedP_more (l r : List UInt8) (h : (codedP l).2.2 ≠ 4) : codedP (l ++ r) = codedP l := by
  have h4 : (fourP l).2 ≠ 4 := fun e => by rw [codedP, e] at h; exact h rfl
  rw [codedP, codedP, fourP_more l r h4]
  rw [codedP] at h
  by_cases h1 : (fourP l).2 ≠ 0
  · rw [if_pos h1, if_pos h1]
  · rw [if_neg h1] at h
    rw [if_neg h1, if_neg h1]
    by_cases h2 : (fourP l).1 < 55296 ∨ 57343 < (fourP l).1
    · rw [if_pos h2, if_pos h2]
    · rw [if_neg h2] at h
      rw [if_neg h2, if_neg h2]
      by_cases h3 : 56320 ≤ (fourP l).1
      · rw [if_pos h3, if_pos h3]
      · rw [if_neg h3] at h
        rw [if_neg h3, if_neg h3]
        have hl := (fourP_bd l (by simpa using h1)).2.2
        rw [List.drop_append_of_le_length hl]
        exact pairP_more _ _ r h
theorem pairQ_take (n : Int) (l : List UInt8) (m : Nat) (hm : 5 ≤ m) (h : (pairQ n l).2.2 = 0) : pairQ n (l.take m) = pairQ n l := by
  match l, m with
  | [], _ => rw [List.take_nil]
  | _ :: _, 0 => omega
  | b :: l, m + 1 =>
    rw [List.take_succ_cons, pairQ, pairQ]
    rw [pairQ] at h
    by_cases hb : b.toNat ≠ 117
    · rw [if_pos hb, if_pos hb]
    · rw [if_neg hb] at h
      rw [if_neg hb, if_neg hb]
      have h4 : (fourP l).2 = 0 := by
        by_cases e : (fourP l).2 ≠ 0
        · rw [if_pos e] at h; exact h
        · simpa using e
      rw [fourP_take l m (by omega) h4]
theorem pairP_take (n : Int) (l : List UInt8) (m : Nat) (hm : 6 ≤ m) (h : (pairP n l).2.2 = 0) : pairP n (l.take m) = pairP n l := by
  match l, m with
  | [], _ => rw [List.take_nil]
  | _ :: _, 0 => omega
  | b :: l, m + 1 =>
    rw [List.take_succ_cons, pairP, pairP]
    rw [pairP] at h
    by_cases hb : b.toNat ≠ 92
    · rw [if_pos hb, if_pos hb]
    · rw [if_neg hb] at h
      rw [if_neg hb, if_neg hb]
      exact pairQ_take n l m (by omega) h
theorem codedP_take (l : List UInt8) (m : Nat) (h : (codedP l).2.2 = 0) (hm : (codedP l).2.1 ≤ m) : codedP (l.take m) = codedP l := by
  have hm4 : 4 ≤ m := by have := codedP_ok l h; omega
  have h4 : (fourP l).2 = 0 := by
    by_cases e : (fourP l).2 ≠ 0
    · rw [codedP, if_pos e] at h; exact h
    · simpa using e
  have hn : ¬ (fourP l).2 ≠ 0 := by simp [h4]
  rw [codedP, codedP, fourP_take l m hm4 h4, if_neg hn, if_neg hn]
  rw [codedP, if_neg hn] at h hm
  by_cases h2 : (fourP l).1 < 55296 ∨ 57343 < (fourP l).1
  · rw [if_pos h2, if_pos h2]
  · rw [if_neg h2] at h hm
    rw [if_neg h2, if_neg h2]
    by_cases h3 : 56320 ≤ (fourP l).1
    · rw [if_pos h3, if_pos h3]
    · rw [if_neg h3] at h hm
      rw [if_neg h3, if_neg h3]
      have h10 := pairP_ok _ _ (by omega) (by omega) h
      rw [List.drop_take]
      exact pairP_take _ _ _ (by omega) h
theorem escP_more (l r : List UInt8) (h : (escP l).2.2 ≠ 4) : escP (l ++ r) = escP l := by
  match l with
  | [] => exact absurd rfl h
  | c :: l =>
    rw [List.cons_append, escP, escP]
    rw [escP] at h
    by_cases hu : c.toNat = 117
    · rw [if_pos hu] at h
      rw [if_pos hu, if_pos hu]
      have h4 : (codedP l).2.2 ≠ 4 := fun e => by rw [e] at h; exact h rfl
      rw [codedP_more l r h4]
    · rw [if_neg hu, if_neg hu]
theorem escP_take (l : List UInt8) (m : Nat) (h : (escP l).2.2 = 0) (hm : (escP l).2.1 ≤ m) : escP (l.take m) = escP l := by
  match l, m with
  | [], _ => rw [List.take_nil]
  | c :: l, 0 => have := escP_ok _ h; omega
  | c :: l, m + 1 =>
    rw [List.take_succ_cons, escP, escP]
    rw [escP] at h hm
    by_cases hu : c.toNat = 117
    · rw [if_pos hu] at h hm
      rw [if_pos hu, if_pos hu]
      by_cases e : (codedP l).2.2 ≠ 0
      · rw [if_pos e] at h; exact absurd h e
      · rw [if_neg e] at hm
        rw [codedP_take l m (by simpa using e) (by simpa using hm)]
    · rw [if_neg hu, if_neg hu]
theorem contP_more : ∀ (j m lw hg : Nat) (l r : List UInt8), (contP j m lw hg l).2 ≠ 4 → contP j m lw hg (l ++ r) = contP j m lw hg l
  | 0, _, _, _, _, _, _ => by rw [contP, contP]
  | _ + 1, _, _, _, [], _, h => absurd rfl h
  | j + 1, m, lw, hg, d :: l, r, h => by
    rw [List.cons_append, contP, contP]
    rw [contP] at h
    by_cases hd : d.toNat < lw ∨ hg < d.toNat
    · rw [if_pos hd, if_pos hd]
    · rw [if_neg hd] at h
      rw [if_neg hd, if_neg hd]
      exact contP_more j _ _ _ l r h
theorem contP_take : ∀ (j m lw hg : Nat) (l : List UInt8) (k : Nat), j ≤ k → (contP j m lw hg l).2 = 0 → contP j m lw hg (l.take k) = contP j m lw hg l
  | 0, _, _, _, _, _, _, _ => by rw [contP, contP]
  | _ + 1, _, _, _, [], _, _, _ => by rw [List.take_nil]
  | _ + 1, _, _, _, _ :: _, 0, hk, _ => by omega
  | j + 1, m, lw, hg, d :: l, k + 1, hk, h => by
    rw [List.take_succ_cons, contP, contP]
    rw [contP] at h
    by_cases hd : d.toNat < lw ∨ hg < d.toNat
    · rw [if_pos hd, if_pos hd]
    · rw [if_neg hd] at h
      rw [if_neg hd, if_neg hd]
      exact contP_take j _ _ _ l k (by omega) h
theorem contR_err (n : Nat) (p : Nat × Int) : (contR n p).2.2 = p.2 := by
  unfold contR
  by_cases h : p.2 = 0
  · rw [if_pos h]; exact h.symm
  · rw [if_neg h]
theorem contR_size (n : Nat) (p : Nat × Int) (h : p.2 = 0) : (contR n p).2.1 = n := by
  unfold contR
  rw [if_pos h]
/-- A rune of more than one byte, by its first byte. -/
theorem next_cont (c : UInt8) (h0 : ¬ c.toNat < 194) (h1 : ¬ 244 < c.toNat) : ∃ n m lw hg : Nat, ∀ r, nextP (c :: r) = contR (n + 1) (contP n m lw hg r) := by
  by_cases h2 : c.toNat < 224
  · exact ⟨1, _, _, _, fun r => cont2 c r h0 h2⟩
  · by_cases h3 : c.toNat < 240
    · by_cases e1 : c.toNat = 224
      · exact ⟨2, _, _, _, fun r => cont3 c r h2 h3 160 191 (Or.inl ⟨e1, rfl, rfl⟩)⟩
      · by_cases e2 : c.toNat = 237
        · exact ⟨2, _, _, _, fun r => cont3 c r h2 h3 128 159 (Or.inr (Or.inl ⟨e2, rfl, rfl⟩))⟩
        · exact ⟨2, _, _, _, fun r => cont3 c r h2 h3 128 191 (Or.inr (Or.inr ⟨e1, e2, rfl, rfl⟩))⟩
    · by_cases e1 : c.toNat = 240
      · exact ⟨3, _, _, _, fun r => cont4 c r h3 h1 144 191 (Or.inl ⟨e1, rfl, rfl⟩)⟩
      · by_cases e2 : c.toNat = 244
        · exact ⟨3, _, _, _, fun r => cont4 c r h3 h1 128 143 (Or.inr (Or.inl ⟨e2, rfl, rfl⟩))⟩
        · exact ⟨3, _, _, _, fun r => cont4 c r h3 h1 128 191 (Or.inr (Or.inr ⟨e1, e2, rfl, rfl⟩))⟩
theorem nextP_more (l r : List UInt8) (h : (nextP l).2.2 ≠ 4) : nextP (l ++ r) = nextP l := by
  match l with
  | [] => exact absurd (by rfl) h
  | c :: l =>
    rw [List.cons_append]
    by_cases h1 : c.toNat < 128
    · rw [next1 _ h1, next1 _ h1]
    · by_cases h2 : c.toNat < 194 ∨ 244 < c.toNat
      · rw [next_bad _ h1 h2, next_bad _ h1 h2]
      · obtain ⟨n, m, lw, hg, hc⟩ := next_cont c (by omega) (by omega)
        rw [hc, contR_err] at h
        rw [hc, hc, contP_more _ _ _ _ _ _ h]
theorem nextP_take (l : List UInt8) (k : Nat) (h : (nextP l).2.2 = 0) (hk : (nextP l).2.1.toNat ≤ k) : nextP (l.take k) = nextP l := by
  match l, k with
  | [], _ => rw [List.take_nil]
  | c :: l, 0 => have := next_size _ h; omega
  | c :: l, k + 1 =>
    rw [List.take_succ_cons]
    by_cases h1 : c.toNat < 128
    · rw [next1 _ h1, next1 _ h1]
    · by_cases h2 : c.toNat < 194 ∨ 244 < c.toNat
      · rw [next_bad _ h1 h2, next_bad _ h1 h2]
      · obtain ⟨n, m, lw, hg, hc⟩ := next_cont c (by omega) (by omega)
        rw [hc] at h hk
        rw [contR_err] at h
        rw [contR_size _ _ h] at hk
        rw [hc, hc, contP_take _ _ _ _ _ _ (by omega) h]
theorem itemP_more (l r : List UInt8) (h : (itemP l).2.2 ≠ 4) : itemP (l ++ r) = itemP l := by
  match l with
  | [] => exact absurd rfl h
  | c :: l =>
    rw [List.cons_append, itemP, itemP]
    rw [itemP] at h
    by_cases h1 : c.toNat < 32
    · rw [if_pos h1, if_pos h1]
    · rw [if_neg h1] at h
      rw [if_neg h1, if_neg h1]
      by_cases h2 : c.toNat ≠ 92
      · rw [if_pos h2] at h
        rw [if_pos h2, if_pos h2]
        have h4 : (nextP (c :: l)).2.2 ≠ 4 := fun e => by rw [e] at h; exact h rfl
        have := nextP_more (c :: l) r h4
        rw [List.cons_append] at this
        rw [this]
      · rw [if_neg h2] at h
        rw [if_neg h2, if_neg h2]
        have h4 : (escP l).2.2 ≠ 4 := fun e => by rw [e] at h; exact h rfl
        rw [escP_more l r h4]
theorem itemP_take (l : List UInt8) (k : Nat) (h : (itemP l).2.2 = 0) (hk : (itemP l).2.1 ≤ k) : itemP (l.take k) = itemP l := by
  match l, k with
  | [], _ => rw [List.take_nil]
  | c :: l, 0 => have := itemP_ok _ h; omega
  | c :: l, k + 1 =>
    rw [List.take_succ_cons, itemP, itemP]
    rw [itemP] at h hk
    by_cases h1 : c.toNat < 32
    · rw [if_pos h1, if_pos h1]
    · rw [if_neg h1] at h hk
      rw [if_neg h1, if_neg h1]
      by_cases h2 : c.toNat ≠ 92
      · rw [if_pos h2] at h hk
        rw [if_pos h2, if_pos h2]
        by_cases e : (nextP (c :: l)).2.2 ≠ 0
        · rw [if_pos e] at h; exact absurd h e
        · rw [if_neg e] at hk
          have := nextP_take (c :: l) (k + 1) (by simpa using e) (by simpa using hk)
          rw [List.take_succ_cons] at this
          rw [this]
      · rw [if_neg h2] at h hk
        rw [if_neg h2, if_neg h2]
        by_cases e : (escP l).2.2 ≠ 0
        · rw [if_pos e] at h; exact absurd h e
        · rw [if_neg e] at hk
          rw [escP_take l k (by simpa using e) (by simpa using hk)]

/-! Strings. -/
def strQ (l out : List UInt8) : List UInt8 × Nat × Int := strGo l.length l out
def strT (out' : List UInt8 × Nat × Int) (n : Nat) : List UInt8 × Nat × Int := if out'.2.2 ≠ 0 then ([], 0, out'.2.2) else (out'.1, out'.2.1 + n, 0)
theorem strQ_nil (out : List UInt8) : strQ [] out = ([], 0, 4) := rfl
theorem strQ_step (c : UInt8) (r out : List UInt8) :
    strQ (c :: r) out = if c.toNat = 34 then (out, 1, 0) else if (itemP (c :: r)).2.2 ≠ 0 then ([], 0, (itemP (c :: r)).2.2) else if 4096 < out.length + (encP (itemP (c :: r)).1).length then ([], 0, 5)
      else strT (strQ ((c :: r).drop (itemP (c :: r)).2.1) (out ++ encP (itemP (c :: r)).1)) (itemP (c :: r)).2.1 := by
  rw [strQ, strGo_step _ _ _ _ (Nat.le_refl _)]
  by_cases h1 : c.toNat = 34
  · rw [if_pos h1, if_pos h1]
  · rw [if_neg h1, if_neg h1]
    by_cases h2 : (itemP (c :: r)).2.2 ≠ 0
    · rw [if_pos h2, if_pos h2]
    · rw [if_neg h2, if_neg h2]
      have hf := strGo_fuel (c :: r).length ((c :: r).drop (itemP (c :: r)).2.1).length ((c :: r).drop (itemP (c :: r)).2.1) (out ++ encP (itemP (c :: r)).1) (by rw [List.length_drop]; omega) (Nat.le_refl _)
      rw [hf]
      rfl
theorem strT_err (x : List UInt8 × Nat × Int) (n : Nat) : (strT x n).2.2 = x.2.2 := by
  unfold strT
  by_cases h : x.2.2 ≠ 0
  · rw [if_pos h]
  · rw [if_neg h]; simpa using (show x.2.2 = 0 by simpa using h).symm
theorem strQ_more (r : List UInt8) : ∀ (n : Nat) (l out : List UInt8), l.length ≤ n → (strQ l out).2.2 ≠ 4 → strQ (l ++ r) out = strQ l out
  | _, [], _, _, h => absurd rfl h
  | 0, _ :: _, _, hn, _ => by simp at hn
  | n + 1, c :: l, out, hn, h => by
    rw [List.cons_append, strQ_step, strQ_step]
    rw [strQ_step] at h
    by_cases h1 : c.toNat = 34
    · rw [if_pos h1, if_pos h1]
    · rw [if_neg h1] at h
      rw [if_neg h1, if_neg h1]
      have h4 : (itemP (c :: l)).2.2 ≠ 4 := fun e => by rw [e] at h; exact h rfl
      have hi := itemP_more (c :: l) r h4
      rw [List.cons_append] at hi
      rw [hi]
      by_cases h2 : (itemP (c :: l)).2.2 ≠ 0
      · rw [if_pos h2, if_pos h2]
      · rw [if_neg h2] at h
        rw [if_neg h2, if_neg h2]
        obtain ⟨_, b, d⟩ := itemP_ok (c :: l) (by simpa using h2)
        by_cases h3 : 4096 < out.length + (encP (itemP (c :: l)).1).length
        · rw [if_pos h3, if_pos h3]
        · rw [if_neg h3, strT_err] at h
          rw [if_neg h3, if_neg h3]
          have hd : (c :: (l ++ r)).drop (itemP (c :: l)).2.1 = (c :: l).drop (itemP (c :: l)).2.1 ++ r := by
            rw [← List.cons_append, List.drop_append_of_le_length d]
          rw [hd, strQ_more r n _ _ (by rw [List.length_drop]; simp at hn ⊢; omega) h]
theorem strQ_take : ∀ (n : Nat) (l out : List UInt8) (k : Nat), l.length ≤ n → (strQ l out).2.2 = 0 → (strQ l out).2.1 ≤ k → strQ (l.take k) out = strQ l out
  | _, [], _, _, _, _, _ => by rw [List.take_nil]
  | 0, _ :: _, _, _, hn, _, _ => by simp at hn
  | n + 1, c :: l, out, 0, hn, h, hk => by have := strGo_ok _ _ _ h; unfold strQ at hk; omega
  | n + 1, c :: l, out, k + 1, hn, h, hk => by
    rw [List.take_succ_cons, strQ_step, strQ_step]
    rw [strQ_step] at h hk
    by_cases h1 : c.toNat = 34
    · rw [if_pos h1, if_pos h1]
    · rw [if_neg h1] at h hk
      rw [if_neg h1, if_neg h1]
      by_cases h2 : (itemP (c :: l)).2.2 ≠ 0
      · rw [if_pos h2] at h; exact absurd h h2
      · rw [if_neg h2] at h hk
        obtain ⟨_, b, d⟩ := itemP_ok (c :: l) (by simpa using h2)
        by_cases h3 : 4096 < out.length + (encP (itemP (c :: l)).1).length
        · rw [if_pos h3] at h; simp at h
        · rw [if_neg h3, strT_err] at h
          rw [if_neg h3, strT, if_neg (by simpa using h)] at hk
          simp only [] at hk
          have hi := itemP_take (c :: l) (k + 1) (by simpa using h2) (by omega)
          rw [List.take_succ_cons] at hi
          rw [hi, if_neg h2, if_neg h2, if_neg h3, if_neg h3]
          have hd : (c :: l.take k).drop (itemP (c :: l)).2.1 = ((c :: l).drop (itemP (c :: l)).2.1).take (k + 1 - (itemP (c :: l)).2.1) := by
            rw [← List.take_succ_cons, List.drop_take]
          rw [hd, strQ_take n _ _ _ (by rw [List.length_drop]; simp at hn ⊢; omega) h (by omega)]

/-! Marks. -/
/-- What is behind a mark, if anything, begins with a blank. -/
def Ahead (r : List UInt8) : Prop := ∀ c r', r = c :: r' → isBlank c = true
theorem ahead_nil : Ahead [] := fun c r' h => by cases h
theorem ahead_cons {c : UInt8} (r : List UInt8) (h : isBlank c = true) : Ahead (c :: r) := fun c' r' e => by cases e; exact h
theorem blank_cases {c : UInt8} (h : isBlank c = true) : c.toNat = 32 ∨ c.toNat = 9 ∨ c.toNat = 10 ∨ c.toNat = 13 := by
  simp [isBlank] at h
  omega
theorem blank_isN {c : UInt8} (h : isBlank c = true) : Nm.isN c = false := by
  have := blank_cases h
  simp [Nm.isN, Nm.dg]
  omega
theorem blank_isLow {c : UInt8} (h : isBlank c = true) : isLow c = false := by
  have := blank_cases h
  simp [isLow]
  omega
theorem tw_more {p : UInt8 → Bool} : ∀ (l r : List UInt8), (∀ c r', r = c :: r' → p c = false) → (l ++ r).takeWhile p = l.takeWhile p
  | [], [], _ => rfl
  | [], c :: r, h => by simp [h c r rfl]
  | c :: l, r, h => by
    rw [List.cons_append, List.takeWhile_cons, List.takeWhile_cons, tw_more l r h]
theorem tw_take {p : UInt8 → Bool} : ∀ (l : List UInt8), l.take (l.takeWhile p).length = l.takeWhile p
  | [] => rfl
  | c :: l => by
    rw [List.takeWhile_cons]
    by_cases h : p c = true
    · rw [if_pos h, List.length_cons, List.take_succ_cons, tw_take l]
    · rw [if_neg h]; rfl
theorem tw_idem {p : UInt8 → Bool} : ∀ (l : List UInt8), (l.takeWhile p).takeWhile p = l.takeWhile p
  | [] => rfl
  | c :: l => by
    by_cases h : p c = true
    · rw [List.takeWhile_cons, if_pos h, List.takeWhile_cons, if_pos h, tw_idem l]
    · rw [List.takeWhile_cons, if_neg h]; rfl
theorem numP_of {l r : List UInt8} (h : r.takeWhile Nm.isN = l.takeWhile Nm.isN) : numP r = numP l := by unfold numP; rw [h]
theorem wordP_of {l r : List UInt8} (h : r.takeWhile isLow = l.takeWhile isLow) : wordP r = wordP l := by unfold wordP; rw [h]
theorem textP_eq (r : List UInt8) : textP r = if (strQ r []).2.2 ≠ 0 then .bad (strQ r []).2.2 else ⟨10, (strQ r []).2.1 + 1, 0, (strQ r []).1, 0⟩ := rfl
theorem textP_e (r : List UInt8) : (textP r).e = (strQ r []).2.2 := by
  rw [textP_eq]
  by_cases h : (strQ r []).2.2 ≠ 0
  · rw [if_pos h]; rfl
  · rw [if_neg h]; simpa using (show (strQ r []).2.2 = 0 by simpa using h).symm
theorem textP_len (r : List UInt8) (h : (textP r).e = 0) : (textP r).len = (strQ r []).2.1 + 1 := by
  rw [textP_e] at h
  rw [textP_eq, if_neg (by simpa using h)]
theorem tokP_more (l r : List UInt8) (hl : l ≠ []) (hr : Ahead r) (h : (tokP l).e ≠ 4) : tokP (l ++ r) = tokP l := by
  match l, hl with
  | c :: l, _ =>
    rw [List.cons_append, tokP, tokP]
    rw [tokP] at h
    by_cases h1 : signOf c ≠ 0
    · rw [if_pos h1, if_pos h1]
    · rw [if_neg h1] at h
      rw [if_neg h1, if_neg h1]
      by_cases h2 : c.toNat = 34
      · rw [if_pos h2, textP_e] at h
        rw [if_pos h2, if_pos h2, textP_eq, textP_eq, strQ_more r _ l [] (Nat.le_refl _) h]
      · rw [if_neg h2, if_neg h2]
        by_cases h3 : numFirst c = true
        · rw [if_pos h3, if_pos h3, ← List.cons_append]
          exact numP_of (tw_more _ _ fun c r' e => blank_isN (hr c r' e))
        · rw [if_neg h3, if_neg h3, ← List.cons_append]
          exact wordP_of (tw_more _ _ fun c r' e => blank_isLow (hr c r' e))
theorem numP_ok {l : List UInt8} (h : (numP l).e = 0) : (numP l).len = (l.takeWhile Nm.isN).length ∧ (numP l).k = 9 ∧ (numP l).t = [] ∧ l.takeWhile Nm.isN ≠ [] := by
  unfold numP at h ⊢
  by_cases h1 : Nm.form (l.takeWhile Nm.isN) = false
  · rw [if_pos h1] at h; simp [Tok.bad] at h
  · rw [if_neg h1] at h ⊢
    by_cases h2 : -9223372036854775808 ≤ Nm.val (l.takeWhile Nm.isN) ∧ Nm.val (l.takeWhile Nm.isN) ≤ 9223372036854775807
    · rw [if_pos h2]
      refine ⟨rfl, rfl, rfl, fun e => h1 (by rw [e]; exact form_nil)⟩
    · rw [if_neg h2] at h; simp [Tok.bad] at h
theorem wordP_ok {l : List UInt8} (h : (wordP l).e = 0) : (wordP l).len = (l.takeWhile isLow).length ∧ ((wordP l).k = 7 ∨ (wordP l).k = 8) ∧ (wordP l).n = 0 ∧ (wordP l).t = [] ∧ l.takeWhile isLow ≠ [] := by
  unfold wordP at h ⊢
  by_cases h1 : l.takeWhile isLow = [116, 114, 117, 101]
  · rw [if_pos h1, h1]; simp
  · rw [if_neg h1] at h ⊢
    by_cases h2 : l.takeWhile isLow = [102, 97, 108, 115, 101]
    · rw [if_pos h2, h2]; simp
    · rw [if_neg h2] at h; simp [Tok.bad] at h
theorem tw_len {p : UInt8 → Bool} (l : List UInt8) : (l.takeWhile p).length ≤ l.length := (List.takeWhile_sublist p).length_le
theorem signOf_bd (c : UInt8) : 0 ≤ signOf c ∧ signOf c ≤ 6 := by
  unfold signOf
  repeat' split
  all_goals omega
/-- What marks are like. -/
theorem tokP_ok {l : List UInt8} (hl : l ≠ []) (h : (tokP l).e = 0) : 1 ≤ (tokP l).len ∧ (tokP l).len ≤ l.length ∧ 1 ≤ (tokP l).k ∧ (tokP l).k ≤ 10 ∧ ((tokP l).k ≠ 9 → (tokP l).n = 0) ∧ ((tokP l).k ≠ 10 → (tokP l).t = []) := by
  match l, hl with
  | c :: l, _ =>
    rw [tokP] at h ⊢
    by_cases h1 : signOf c ≠ 0
    · have := signOf_bd c
      rw [if_pos h1]
      exact ⟨by simp, by simp, by simp only []; omega, by simp only []; omega, fun _ => rfl, fun _ => rfl⟩
    · rw [if_neg h1] at h ⊢
      by_cases h2 : c.toNat = 34
      · rw [if_pos h2] at h ⊢
        have hlen := textP_len _ h
        rw [textP_e] at h
        have hok := strGo_ok _ _ _ h
        have e : textP l = ⟨10, (strQ l []).2.1 + 1, 0, (strQ l []).1, 0⟩ := by rw [textP_eq, if_neg (by simpa using h)]
        rw [hlen, e]
        unfold strQ
        simp only [List.length_cons]
        exact ⟨by omega, by omega, by omega, by omega, fun _ => trivial, fun hh => by simp at hh⟩
      · rw [if_neg h2] at h ⊢
        by_cases h3 : numFirst c = true
        · rw [if_pos h3] at h ⊢
          obtain ⟨a1, a2, a3, a4⟩ := numP_ok h
          have hle := tw_len (p := Nm.isN) (c :: l)
          have hpos := List.length_pos_iff.2 a4
          rw [a1, a2]
          exact ⟨hpos, hle, by omega, by omega, fun hh => absurd rfl hh, fun _ => a3⟩
        · rw [if_neg h3] at h ⊢
          obtain ⟨a1, a2, a3, a4, a5⟩ := wordP_ok h
          have hle := tw_len (p := isLow) (c :: l)
          have hpos := List.length_pos_iff.2 a5
          rw [a1]
          exact ⟨hpos, hle, by omega, by omega, fun _ => a3, fun _ => a4⟩
theorem take_head {l : List UInt8} {k : Nat} (h : 1 ≤ k) (hl : l ≠ []) : ∃ c r, l = c :: r ∧ l.take k = c :: r.take (k - 1) := by
  match l, k, hl with
  | c :: r, k + 1, _ => exact ⟨c, r, rfl, rfl⟩
/-- A mark's own bytes are that mark. -/
theorem tokP_take {l : List UInt8} (hl : l ≠ []) (h : (tokP l).e = 0) : tokP (l.take (tokP l).len) = tokP l := by
  obtain ⟨hk, _⟩ := tokP_ok hl h
  match l, hl with
  | c :: l, _ =>
    obtain ⟨k, hk2⟩ : ∃ k, (tokP (c :: l)).len = k + 1 := ⟨(tokP (c :: l)).len - 1, by omega⟩
    have hk3 := hk2
    rw [hk2, List.take_succ_cons]
    have hT : (c :: l).take (k + 1) = c :: l.take k := rfl
    rw [tokP] at h hk2 ⊢
    rw [tokP]
    by_cases h1 : signOf c ≠ 0
    · rw [if_pos h1, if_pos h1]
    · rw [if_neg h1] at h hk2
      rw [if_neg h1, if_neg h1]
      by_cases h2 : c.toNat = 34
      · rw [if_pos h2] at h hk2
        rw [if_pos h2, if_pos h2]
        rw [textP_len _ h] at hk2
        rw [textP_e] at h
        rw [textP_eq, textP_eq, strQ_take _ l [] k (Nat.le_refl _) h (by omega)]
      · rw [if_neg h2] at h hk2
        rw [if_neg h2, if_neg h2]
        by_cases h3 : numFirst c = true
        · rw [if_pos h3] at h hk2
          rw [if_pos h3, if_pos h3]
          refine numP_of ?_
          rw [← hT, ← hk2, (numP_ok h).1, tw_take, tw_idem]
        · rw [if_neg h3] at h hk2
          rw [if_neg h3, if_neg h3]
          refine wordP_of ?_
          rw [← hT, ← hk2, (wordP_ok h).1, tw_take, tw_idem]
/-- A mark's own bytes, with nothing or a blank behind them, are that mark. -/
theorem tokP_alone {l : List UInt8} (hl : l ≠ []) (h : (tokP l).e = 0) (r : List UInt8) (hr : Ahead r) : tokP (l.take (tokP l).len ++ r) = tokP l := by
  have h1 := tokP_take hl h
  obtain ⟨hk, _⟩ := tokP_ok hl h
  obtain ⟨c, r', e1, e2⟩ := take_head hk hl
  rw [tokP_more _ _ (by rw [e2]; simp) hr (by rw [h1, h]; decide), h1]
end Go.Proofs.YtkflnbmbkilicaaDoor
