/-
  UTF-8, plainly: the rune at the head of bytes, as the program reads it and as the document tells it.
-/
import Derived.Test.YtkflnbmbkilicaaDoorUtf
namespace Go.Proofs.YtkflnbmbkilicaaDoor
open Go.RowKit

/-- What follows a first byte of a rune of two, three, four bytes. -/
def next2P (c : UInt8) : List UInt8 → Int × Int × Int
  | [] => (0, 0, 4)
  | d :: _ => if d.toNat < 128 ∨ 191 < d.toNat then (0, 0, 12) else (((c.toNat : Int) - 192) * 64 + ((d.toNat : Int) - 128), 2, 0)
def next3Q (c d : UInt8) : List UInt8 → Int × Int × Int
  | [] => (0, 0, 4)
  | e :: _ => if e.toNat < 128 ∨ 191 < e.toNat then (0, 0, 12) else (((c.toNat : Int) - 224) * 4096 + ((d.toNat : Int) - 128) * 64 + ((e.toNat : Int) - 128), 3, 0)
def ok3 (c d : UInt8) : Prop := 128 ≤ d.toNat ∧ d.toNat ≤ 191 ∧ ¬ (c.toNat = 224 ∧ d.toNat < 160) ∧ ¬ (c.toNat = 237 ∧ 159 < d.toNat)
def ok4 (c d : UInt8) : Prop := 128 ≤ d.toNat ∧ d.toNat ≤ 191 ∧ ¬ (c.toNat = 240 ∧ d.toNat < 144) ∧ ¬ (c.toNat = 244 ∧ 143 < d.toNat)
instance (c d : UInt8) : Decidable (ok3 c d) := by unfold ok3; infer_instance
instance (c d : UInt8) : Decidable (ok4 c d) := by unfold ok4; infer_instance
def next3P (c : UInt8) : List UInt8 → Int × Int × Int
  | [] => (0, 0, 4)
  | d :: r => if ok3 c d then next3Q c d r else (0, 0, 12)
def next4R (c d e : UInt8) : List UInt8 → Int × Int × Int
  | [] => (0, 0, 4)
  | f :: _ => if f.toNat < 128 ∨ 191 < f.toNat then (0, 0, 12) else (((c.toNat : Int) - 240) * 262144 + ((d.toNat : Int) - 128) * 4096 + ((e.toNat : Int) - 128) * 64 + ((f.toNat : Int) - 128), 4, 0)
def next4Q (c d : UInt8) : List UInt8 → Int × Int × Int
  | [] => (0, 0, 4)
  | e :: r => if e.toNat < 128 ∨ 191 < e.toNat then (0, 0, 12) else next4R c d e r
def next4P (c : UInt8) : List UInt8 → Int × Int × Int
  | [] => (0, 0, 4)
  | d :: r => if ok4 c d then next4Q c d r else (0, 0, 12)
/-- The rune that bytes begin with, how many bytes it has, and the error. -/
def nextP : List UInt8 → Int × Int × Int
  | [] => (0, 0, 4)
  | c :: r =>
    if c.toNat < 128 then ((c.toNat : Int), 1, 0)
    else if c.toNat < 194 ∨ 244 < c.toNat then (0, 0, 12)
    else if c.toNat < 224 then next2P c r
    else if c.toNat < 240 then next3P c r
    else next4P c r
theorem u8_lt (c : UInt8) : c.toNat < 256 := UInt8.toNat_lt c

/-! The document's way: do bytes begin a rune? -/
/-- The byte at a place (0 behind the end). -/
def byteAt (l : List UInt8) (i : Nat) : Int := ((l.getD i 0).toNat : Int)
def lo (l : List UInt8) (base : Int) : Nat → Int
  | 0 => byteAt l 0 - base
  | k + 1 => 64 * lo l base k + (if k + 1 < l.length then byteAt l (k + 1) - 128 else 0)
def hi (l : List UInt8) (base : Int) : Nat → Int
  | 0 => byteAt l 0 - base
  | k + 1 => 64 * hi l base k + (if k + 1 < l.length then byteAt l (k + 1) - 128 else 63)
def contTo (l : List UInt8) (k : Nat) : Bool := (List.range k).all fun i => decide (128 ≤ byteAt l (i + 1)) && decide (byteAt l (i + 1) ≤ 191)
def baseOf (size : Nat) : Int := if size = 2 then 192 else if size = 3 then 224 else 240
def leastOf (size : Nat) : Int := if size = 2 then 128 else if size = 3 then 2048 else 65536
def beginsB (l : List UInt8) (size : Nat) : Bool :=
  contTo l (min (l.length - 1) (size - 1)) &&
    (!(decide (55296 ≤ max (lo l (baseOf size) (size - 1)) (leastOf size)) && decide (min (hi l (baseOf size) (size - 1)) 1114111 ≤ 57343)) && decide (max (lo l (baseOf size) (size - 1)) (leastOf size) ≤ min (hi l (baseOf size) (size - 1)) 1114111))
/-- Byte by byte, from the n-th one on: what is wrong first. -/
def wrongFrom (l : List UInt8) (size : Nat) : Nat → Nat → Int
  | 0, _ => 0
  | f + 1, n => if l.length < n then 4 else if beginsB (l.take n) size = false then 12 else wrongFrom l size f (n + 1)
def sizeOf8 (b : Nat) : Nat := if b < 224 then 2 else if b < 240 then 3 else 4
def refNextP : List UInt8 → Int × Int × Int
  | [] => (0, 0, 4)
  | c :: r =>
    if c.toNat < 128 then ((c.toNat : Int), 1, 0)
    else if c.toNat < 192 ∨ 247 < c.toNat then (0, 0, 12)
    else if wrongFrom (c :: r) (sizeOf8 c.toNat) (sizeOf8 c.toNat) 1 = 0 then (lo (c :: r) (baseOf (sizeOf8 c.toNat)) (sizeOf8 c.toNat - 1), (sizeOf8 c.toNat : Int), 0)
    else (0, 0, wrongFrom (c :: r) (sizeOf8 c.toNat) (sizeOf8 c.toNat) 1)
theorem next1 {c : UInt8} (r : List UInt8) (h : c.toNat < 128) : nextP (c :: r) = ((c.toNat : Int), 1, 0) := by
  rw [nextP, if_pos h]
theorem next_bad {c : UInt8} (r : List UInt8) (h0 : ¬ c.toNat < 128) (h : c.toNat < 194 ∨ 244 < c.toNat) : nextP (c :: r) = (0, 0, 12) := by
  rw [nextP, if_neg h0, if_pos h]
theorem next2 {c : UInt8} (r : List UInt8) (h0 : ¬ c.toNat < 194) (h : c.toNat < 224) : nextP (c :: r) = next2P c r := by
  rw [nextP, if_neg (by omega), if_neg (by omega), if_pos h]
theorem next3 {c : UInt8} (r : List UInt8) (h0 : ¬ c.toNat < 224) (h : c.toNat < 240) : nextP (c :: r) = next3P c r := by
  rw [nextP, if_neg (by omega), if_neg (by omega), if_neg (by omega), if_pos h]
theorem next4 {c : UInt8} (r : List UInt8) (h0 : ¬ c.toNat < 240) (h : ¬ 244 < c.toNat) : nextP (c :: r) = next4P c r := by
  rw [nextP, if_neg (by omega), if_neg (by omega), if_neg (by omega), if_neg (by omega)]

/-! Which beginnings there are, by how many bytes stand there. -/
theorem beg_iff (l : List UInt8) (size : Nat) : beginsB l size = true ↔ contTo l (min (l.length - 1) (size - 1)) = true ∧ ¬ (55296 ≤ max (lo l (baseOf size) (size - 1)) (leastOf size) ∧ min (hi l (baseOf size) (size - 1)) 1114111 ≤ 57343) ∧ max (lo l (baseOf size) (size - 1)) (leastOf size) ≤ min (hi l (baseOf size) (size - 1)) 1114111 := by
  unfold beginsB
  simp only [Bool.and_eq_true, Bool.not_eq_true', Bool.and_eq_false_iff, decide_eq_false_iff_not, decide_eq_true_eq]
  constructor
  · rintro ⟨h1, h2, h3⟩; exact ⟨h1, fun h => by rcases h2 with h2 | h2 <;> omega, h3⟩
  · rintro ⟨h1, h2, h3⟩; exact ⟨h1, by omega, h3⟩
theorem bool_of {p : Bool} {q : Prop} [Decidable q] (h : p = true ↔ q) : p = decide q := by
  cases p <;> by_cases hq : q <;> simp_all
theorem beg21 (c : UInt8) (h : 192 ≤ c.toNat) (h2 : c.toNat < 224) : beginsB [c] 2 = decide (194 ≤ c.toNat) :=
  bool_of ((beg_iff _ _).trans (by simp [contTo, lo, hi, byteAt, baseOf, leastOf]; omega))
theorem beg22 (c d : UInt8) (h : 194 ≤ c.toNat) (h2 : c.toNat < 224) : beginsB [c, d] 2 = decide (128 ≤ d.toNat ∧ d.toNat ≤ 191) :=
  bool_of ((beg_iff _ _).trans (by simp [contTo, lo, hi, byteAt, baseOf, leastOf]; omega))
theorem beg31 (c : UInt8) (h : 224 ≤ c.toNat) (h2 : c.toNat < 240) : beginsB [c] 3 = true :=
  (beg_iff _ _).2 (by simp [contTo, lo, hi, byteAt, baseOf, leastOf]; omega)
theorem beg32 (c d : UInt8) (h : 224 ≤ c.toNat) (h2 : c.toNat < 240) : beginsB [c, d] 3 = decide (ok3 c d) :=
  bool_of ((beg_iff _ _).trans (by unfold ok3; simp [contTo, lo, hi, byteAt, baseOf, leastOf]; omega))
theorem beg33 (c d e : UInt8) (h : 224 ≤ c.toNat) (h2 : c.toNat < 240) (hd : ok3 c d) : beginsB [c, d, e] 3 = decide (128 ≤ e.toNat ∧ e.toNat ≤ 191) :=
  bool_of ((beg_iff _ _).trans (by unfold ok3 at hd; simp [contTo, lo, hi, byteAt, baseOf, leastOf, List.range_succ]; omega))
theorem beg41 (c : UInt8) (h : 240 ≤ c.toNat) (h2 : c.toNat < 248) : beginsB [c] 4 = decide (c.toNat ≤ 244) :=
  bool_of ((beg_iff _ _).trans (by simp [contTo, lo, hi, byteAt, baseOf, leastOf]; omega))
theorem beg42 (c d : UInt8) (h : 240 ≤ c.toNat) (h2 : c.toNat ≤ 244) : beginsB [c, d] 4 = decide (ok4 c d) :=
  bool_of ((beg_iff _ _).trans (by unfold ok4; simp [contTo, lo, hi, byteAt, baseOf, leastOf]; omega))
theorem beg43 (c d e : UInt8) (h : 240 ≤ c.toNat) (h2 : c.toNat ≤ 244) (hd : ok4 c d) : beginsB [c, d, e] 4 = decide (128 ≤ e.toNat ∧ e.toNat ≤ 191) :=
  bool_of ((beg_iff _ _).trans (by unfold ok4 at hd; simp [contTo, lo, hi, byteAt, baseOf, leastOf, List.range_succ]; omega))
theorem beg44 (c d e f : UInt8) (h : 240 ≤ c.toNat) (h2 : c.toNat ≤ 244) (hd : ok4 c d) (he : 128 ≤ e.toNat ∧ e.toNat ≤ 191) : beginsB [c, d, e, f] 4 = decide (128 ≤ f.toNat ∧ f.toNat ≤ 191) :=
  bool_of ((beg_iff _ _).trans (by unfold ok4 at hd; simp [contTo, lo, hi, byteAt, baseOf, leastOf, List.range_succ]; omega))
theorem take1 (c : UInt8) (r : List UInt8) : (c :: r).take 1 = [c] := rfl
theorem wrong_step (l : List UInt8) (size f n : Nat) : wrongFrom l size (f + 1) n = if l.length < n then 4 else if beginsB (l.take n) size = false then 12 else wrongFrom l size f (n + 1) := rfl
theorem refNext_eq (l : List UInt8) : refNextP l = nextP l := by
  match l with
  | [] => rfl
  | c :: r =>
    have hc := u8_lt c
    rw [refNextP]
    by_cases h1 : c.toNat < 128
    · rw [if_pos h1, next1 r h1]
    · rw [if_neg h1]
      by_cases h2 : c.toNat < 192 ∨ 247 < c.toNat
      · rw [if_pos h2, next_bad r h1 (by omega)]
      · rw [if_neg h2]
        by_cases h3 : c.toNat < 224
        · have e : sizeOf8 c.toNat = 2 := by unfold sizeOf8; rw [if_pos h3]
          rw [e]
          have w1 : wrongFrom (c :: r) 2 2 1 = if beginsB [c] 2 = false then 12 else wrongFrom (c :: r) 2 1 2 := by
            rw [wrong_step, if_neg (by simp)]; rfl
          rw [beg21 c (by omega) h3] at w1
          by_cases h4 : 194 ≤ c.toNat
          · rw [decide_eq_true h4, if_neg (show ¬ (true = false) by simp)] at w1
            rw [next2 r (by omega) h3, w1]
            match r with
            | [] => rfl
            | d :: r =>
              have w2 : wrongFrom (c :: d :: r) 2 1 2 = if beginsB [c, d] 2 = false then 12 else 0 := by
                rw [wrong_step, if_neg (by simp)]; rfl
              rw [w2, beg22 c d h4 h3, next2P]
              by_cases hd : 128 ≤ d.toNat ∧ d.toNat ≤ 191
              · rw [decide_eq_true hd, if_neg (show ¬ (true = false) by simp), if_pos rfl, if_neg (by omega)]
                simp [lo, byteAt, baseOf]; omega
              · rw [decide_eq_false hd, if_pos rfl, if_neg (by decide), if_pos (by omega)]
          · rw [next_bad r h1 (by omega), w1, decide_eq_false h4, if_pos rfl]; rfl
        · by_cases h5 : c.toNat < 240
          · have e : sizeOf8 c.toNat = 3 := by unfold sizeOf8; rw [if_neg h3, if_pos h5]
            rw [e]
            have w1 : wrongFrom (c :: r) 3 3 1 = if beginsB [c] 3 = false then 12 else wrongFrom (c :: r) 3 2 2 := by
              rw [wrong_step, if_neg (by simp)]; rfl
            rw [beg31 c (by omega) h5, if_neg (by simp)] at w1
            rw [next3 r h3 h5, w1]
            match r with
            | [] => rfl
            | d :: r =>
              have w2 : wrongFrom (c :: d :: r) 3 2 2 = if beginsB [c, d] 3 = false then 12 else wrongFrom (c :: d :: r) 3 1 3 := by
                rw [wrong_step, if_neg (by simp)]; rfl
              rw [w2, beg32 c d (by omega) h5, next3P]
              by_cases hd : ok3 c d
              · rw [decide_eq_true hd, if_neg (show ¬ (true = false) by simp), if_pos hd]
                match r with
                | [] => rfl
                | f :: r =>
                  have w3 : wrongFrom (c :: d :: f :: r) 3 1 3 = if beginsB [c, d, f] 3 = false then 12 else 0 := by
                    rw [wrong_step, if_neg (by simp)]; rfl
                  rw [w3, beg33 c d f (by omega) h5 hd, next3Q]
                  by_cases hf : 128 ≤ f.toNat ∧ f.toNat ≤ 191
                  · rw [decide_eq_true hf, if_neg (show ¬ (true = false) by simp), if_pos rfl, if_neg (by omega)]
                    simp [lo, byteAt, baseOf]; omega
                  · rw [decide_eq_false hf, if_pos rfl, if_neg (by decide), if_pos (by omega)]
              · rw [decide_eq_false hd, if_pos rfl, if_neg (by decide), if_neg hd]
          · have e : sizeOf8 c.toNat = 4 := by unfold sizeOf8; rw [if_neg h3, if_neg h5]
            rw [e]
            have w1 : wrongFrom (c :: r) 4 4 1 = if beginsB [c] 4 = false then 12 else wrongFrom (c :: r) 4 3 2 := by
              rw [wrong_step, if_neg (by simp)]; rfl
            rw [beg41 c (by omega) (by omega)] at w1
            by_cases h6 : c.toNat ≤ 244
            · rw [next4 r h5 (by omega), w1, decide_eq_true h6, if_neg (show ¬ (true = false) by simp)]
              match r with
              | [] => rfl
              | d :: r =>
                have w2 : wrongFrom (c :: d :: r) 4 3 2 = if beginsB [c, d] 4 = false then 12 else wrongFrom (c :: d :: r) 4 2 3 := by
                  rw [wrong_step, if_neg (by simp)]; rfl
                rw [w2, beg42 c d (by omega) h6, next4P]
                by_cases hd : ok4 c d
                · rw [decide_eq_true hd, if_neg (show ¬ (true = false) by simp), if_pos hd]
                  match r with
                  | [] => rfl
                  | f :: r =>
                    have w3 : wrongFrom (c :: d :: f :: r) 4 2 3 = if beginsB [c, d, f] 4 = false then 12 else wrongFrom (c :: d :: f :: r) 4 1 4 := by
                      rw [wrong_step, if_neg (by simp)]; rfl
                    rw [w3, beg43 c d f (by omega) h6 hd, next4Q]
                    by_cases hf : 128 ≤ f.toNat ∧ f.toNat ≤ 191
                    · rw [decide_eq_true hf, if_neg (show ¬ (true = false) by simp), if_neg (show ¬ (f.toNat < 128 ∨ 191 < f.toNat) by omega)]
                      match r with
                      | [] => rfl
                      | g :: r =>
                        have w4 : wrongFrom (c :: d :: f :: g :: r) 4 1 4 = if beginsB [c, d, f, g] 4 = false then 12 else 0 := by
                          rw [wrong_step, if_neg (by simp)]; rfl
                        rw [w4, beg44 c d f g (by omega) h6 hd hf, next4R]
                        by_cases hg : 128 ≤ g.toNat ∧ g.toNat ≤ 191
                        · rw [decide_eq_true hg, if_neg (show ¬ (true = false) by simp), if_pos rfl, if_neg (by omega)]
                          simp [lo, byteAt, baseOf]; omega
                        · rw [decide_eq_false hg, if_pos rfl, if_neg (by decide), if_pos (by omega)]
                    · rw [decide_eq_false hf, if_pos rfl, if_neg (by decide), if_pos (by omega)]
                · rw [decide_eq_false hd, if_pos rfl, if_neg (by decide), if_neg hd]
            · rw [next_bad r h1 (by omega), w1, decide_eq_false h6, if_pos rfl]; rfl
end Go.Proofs.YtkflnbmbkilicaaDoor
