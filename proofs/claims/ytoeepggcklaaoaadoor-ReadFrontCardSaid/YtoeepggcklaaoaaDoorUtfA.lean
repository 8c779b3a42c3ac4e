/-
  utf.Len and utf.Valid: whether a string is UTF-8, by the runes that ranging over it gives.
  UTF-8, plainly: the rune at the head of bytes, as the program reads it and as the document tells it.
  A string is UTF-8 by ranging over it just if it is rune by rune.
  legateref04: the document's UTF-8, walked.
-/
import Derived.Test.YtoeepggcklaaoaaDoorNumA
import Derived.Test.YtoeepggcklaaoaaDoorShelf
import Derived.Lib.RuneCount
import Derived.Lib.OthersKept
import Derived.Lib.TrimUEq
import Derived.Test.YtoeepggcklaaoaaDoorValA
import Derived.Deep.QuietTactic
import Derived.BigQuiet
import Derived.IntWalk
namespace Go.Proofs.YtoeepggcklaaoaaDoor
section
open Go.RowKit

/-- Is the rune at a place the one that stands for what is none, without its three bytes? -/
def badAt (s : ByteArray) (pos : Nat) : Bool := decide ((Utf8.decode s pos).1 = 65533) && !Lib.hasPrefix (s.data.toList.drop pos) [239, 191, 189]
/-- From a place on: is it UTF-8? -/
def utfGo (s : ByteArray) : Nat → Nat → Bool
  | 0, _ => true
  | f + 1, pos => if pos < s.size then (if badAt s pos then false else utfGo s f (pos + (Utf8.decode s pos).2)) else true
def utfOK (s : ByteArray) : Bool := utfGo s s.size 0

def LenPost (s : ByteArray) (w : World) (e : Ending) (w' : World) : Prop :=
  ∃ n : Int, e = .returned (.tuple #[.int .i64 n, .bool (utfOK s)]) ∧ Below w.heap.size w w'

theorem utfGo_end (s : ByteArray) (f pos : Nat) (h : ¬ pos < s.size) : utfGo s f pos = true := by
  cases f with
  | zero => rfl
  | succ f => rw [utfGo, if_neg h]

end

section
open Go.RowKit

/-- What follows a first byte of a rune of two, three, four bytes. -/
def next2P (c : UInt8) : List UInt8 → Int × Int × Int
  | [] => (0, 0, 4)
  | d :: _ => if d.toNat < 128 ∨ 191 < d.toNat then (0, 0, 12) else (((c.toNat : Int) - 192) * 64 + ((d.toNat : Int) - 128), 2, 0)
def next3Q (c d : UInt8) : List UInt8 → Int × Int × Int
  | [] => (0, 0, 4)
  | e :: _ => if e.toNat < 128 ∨ 191 < e.toNat then (0, 0, 12) else (((c.toNat : Int) - 224) * 4096 + ((d.toNat : Int) - 128) * 64 + ((e.toNat : Int) - 128), 3, 0)
def ok3 (c d : UInt8) : Prop := 128 ≤ d.toNat ∧ d.toNat ≤ 191 ∧ ¬ (c.toNat = 224 ∧ d.toNat < 160) ∧ ¬ (c.toNat = 237 ∧ 159 < d.toNat)
def ok4 (c d : UInt8) : Prop := 128 ≤ d.toNat ∧ d.toNat ≤ 191 ∧ ¬ (c.toNat = 240 ∧ d.toNat < 144) ∧ ¬ (c.toNat = 244 ∧ 143 < d.toNat)
instance (c d : UInt8) : Decidable (ok3 c d) := by unfold ok3; infer_instance
instance (c d : UInt8) : Decidable (ok4 c d) := by unfold ok4; infer_instance
def next3P (c : UInt8) : List UInt8 → Int × Int × Int
  | [] => (0, 0, 4)
  | d :: r => if ok3 c d then next3Q c d r else (0, 0, 12)
def next4R (c d e : UInt8) : List UInt8 → Int × Int × Int
  | [] => (0, 0, 4)
  | f :: _ => if f.toNat < 128 ∨ 191 < f.toNat then (0, 0, 12) else (((c.toNat : Int) - 240) * 262144 + ((d.toNat : Int) - 128) * 4096 + ((e.toNat : Int) - 128) * 64 + ((f.toNat : Int) - 128), 4, 0)
def next4Q (c d : UInt8) : List UInt8 → Int × Int × Int
  | [] => (0, 0, 4)
  | e :: r => if e.toNat < 128 ∨ 191 < e.toNat then (0, 0, 12) else next4R c d e r
def next4P (c : UInt8) : List UInt8 → Int × Int × Int
  | [] => (0, 0, 4)
  | d :: r => if ok4 c d then next4Q c d r else (0, 0, 12)
/-- The rune that bytes begin with, how many bytes it has, and the error. -/
def nextP : List UInt8 → Int × Int × Int
  | [] => (0, 0, 4)
  | c :: r =>
    if c.toNat < 128 then ((c.toNat : Int), 1, 0)
    else if c.toNat < 194 ∨ 244 < c.toNat then (0, 0, 12)
    else if c.toNat < 224 then next2P c r
    else if c.toNat < 240 then next3P c r
    else next4P c r
theorem u8_lt (c : UInt8) : c.toNat < 256 := UInt8.toNat_lt c

/-! The document's way: do bytes begin a rune? -/
/-- The byte at a place (0 behind the end). -/
def byteAt (l : List UInt8) (i : Nat) : Int := ((l.getD i 0).toNat : Int)
def lo (l : List UInt8) (base : Int) : Nat → Int
  | 0 => byteAt l 0 - base
  | k + 1 => 64 * lo l base k + (if k + 1 < l.length then byteAt l (k + 1) - 128 else 0)
def hi (l : List UInt8) (base : Int) : Nat → Int
  | 0 => byteAt l 0 - base
  | k + 1 => 64 * hi l base k + (if k + 1 < l.length then byteAt l (k + 1) - 128 else 63)
def contTo (l : List UInt8) (k : Nat) : Bool := (List.range k).all fun i => decide (128 ≤ byteAt l (i + 1)) && decide (byteAt l (i + 1) ≤ 191)
def baseOf (size : Nat) : Int := if size = 2 then 192 else if size = 3 then 224 else 240
def leastOf (size : Nat) : Int := if size = 2 then 128 else if size = 3 then 2048 else 65536
def beginsB (l : List UInt8) (size : Nat) : Bool :=
  contTo l (min (l.length - 1) (size - 1)) &&
    (!(decide (55296 ≤ max (lo l (baseOf size) (size - 1)) (leastOf size)) && decide (min (hi l (baseOf size) (size - 1)) 1114111 ≤ 57343)) && decide (max (lo l (baseOf size) (size - 1)) (leastOf size) ≤ min (hi l (baseOf size) (size - 1)) 1114111))
/-- Byte by byte, from the n-th one on: what is wrong first. -/
def wrongFrom (l : List UInt8) (size : Nat) : Nat → Nat → Int
  | 0, _ => 0
  | f + 1, n => if l.length < n then 4 else if beginsB (l.take n) size = false then 12 else wrongFrom l size f (n + 1)
def sizeOf8 (b : Nat) : Nat := if b < 224 then 2 else if b < 240 then 3 else 4
def refNextP : List UInt8 → Int × Int × Int
  | [] => (0, 0, 4)
  | c :: r =>
    if c.toNat < 128 then ((c.toNat : Int), 1, 0)
    else if c.toNat < 192 ∨ 247 < c.toNat then (0, 0, 12)
    else if wrongFrom (c :: r) (sizeOf8 c.toNat) (sizeOf8 c.toNat) 1 = 0 then (lo (c :: r) (baseOf (sizeOf8 c.toNat)) (sizeOf8 c.toNat - 1), (sizeOf8 c.toNat : Int), 0)
    else (0, 0, wrongFrom (c :: r) (sizeOf8 c.toNat) (sizeOf8 c.toNat) 1)
theorem next1 {c : UInt8} (r : List UInt8) (h : c.toNat < 128) : nextP (c :: r) = ((c.toNat : Int), 1, 0) := by
  rw [nextP, if_pos h]
theorem next_bad {c : UInt8} (r : List UInt8) (h0 : ¬ c.toNat < 128) (h : c.toNat < 194 ∨ 244 < c.toNat) : nextP (c :: r) = (0, 0, 12) := by
  rw [nextP, if_neg h0, if_pos h]
theorem next2 {c : UInt8} (r : List UInt8) (h0 : ¬ c.toNat < 194) (h : c.toNat < 224) : nextP (c :: r) = next2P c r := by
  rw [nextP, if_neg (by omega), if_neg (by omega), if_pos h]
theorem next3 {c : UInt8} (r : List UInt8) (h0 : ¬ c.toNat < 224) (h : c.toNat < 240) : nextP (c :: r) = next3P c r := by
  rw [nextP, if_neg (by omega), if_neg (by omega), if_neg (by omega), if_pos h]
theorem next4 {c : UInt8} (r : List UInt8) (h0 : ¬ c.toNat < 240) (h : ¬ 244 < c.toNat) : nextP (c :: r) = next4P c r := by
  rw [nextP, if_neg (by omega), if_neg (by omega), if_neg (by omega), if_neg (by omega)]

/-! Which beginnings there are, by how many bytes stand there. -/
theorem beg_iff (l : List UInt8) (size : Nat) : beginsB l size = true ↔ contTo l (min (l.length - 1) (size - 1)) = true ∧ ¬ (55296 ≤ max (lo l (baseOf size) (size - 1)) (leastOf size) ∧ min (hi l (baseOf size) (size - 1)) 1114111 ≤ 57343) ∧ max (lo l (baseOf size) (size - 1)) (leastOf size) ≤ min (hi l (baseOf size) (size - 1)) 1114111 := by
  unfold beginsB
  simp only [Bool.and_eq_true, Bool.not_eq_true', Bool.and_eq_false_iff, decide_eq_false_iff_not, decide_eq_true_eq]
  constructor
  · rintro ⟨h1, h2, h3⟩; exact ⟨h1, fun h => by rcases h2 with h2 | h2 <;> omega, h3⟩
  · rintro ⟨h1, h2, h3⟩; exact ⟨h1, by omega, h3⟩
theorem bool_of {p : Bool} {q : Prop} [Decidable q] (h : p = true ↔ q) : p = decide q := by
  cases p <;> by_cases hq : q <;> simp_all
theorem beg21 (c : UInt8) (h : 192 ≤ c.toNat) (h2 : c.toNat < 224) : beginsB [c] 2 = decide (194 ≤ c.toNat) :=
  bool_of ((beg_iff _ _).trans (by simp [contTo, lo, hi, byteAt, baseOf, leastOf]; omega))
theorem beg22 (c d : UInt8) (h : 194 ≤ c.toNat) (h2 : c.toNat < 224) : beginsB [c, d] 2 = decide (128 ≤ d.toNat ∧ d.toNat ≤ 191) :=
  bool_of ((beg_iff _ _).trans (by simp [contTo, lo, hi, byteAt, baseOf, leastOf]; omega))
theorem beg31 (c : UInt8) (h : 224 ≤ c.toNat) (h2 : c.toNat < 240) : beginsB [c] 3 = true :=
  (beg_iff _ _).2 (by simp [contTo, lo, hi, byteAt, baseOf, leastOf]; omega)
theorem beg32 (c d : UInt8) (h : 224 ≤ c.toNat) (h2 : c.toNat < 240) : beginsB [c, d] 3 = decide (ok3 c d) :=
  bool_of ((beg_iff _ _).trans (by unfold ok3; simp [contTo, lo, hi, byteAt, baseOf, leastOf]; omega))
theorem beg33 (c d e : UInt8) (h : 224 ≤ c.toNat) (h2 : c.toNat < 240) (hd : ok3 c d) : beginsB [c, d, e] 3 = decide (128 ≤ e.toNat ∧ e.toNat ≤ 191) :=
  bool_of ((beg_iff _ _).trans (by unfold ok3 at hd; simp [contTo, lo, hi, byteAt, baseOf, leastOf, List.range_succ]; omega))
theorem beg41 (c : UInt8) (h : 240 ≤ c.toNat) (h2 : c.toNat < 248) : beginsB [c] 4 = decide (c.toNat ≤ 244) :=
  bool_of ((beg_iff _ _).trans (by simp [contTo, lo, hi, byteAt, baseOf, leastOf]; omega))
theorem beg42 (c d : UInt8) (h : 240 ≤ c.toNat) (h2 : c.toNat ≤ 244) : beginsB [c, d] 4 = decide (ok4 c d) :=
  bool_of ((beg_iff _ _).trans (by unfold ok4; simp [contTo, lo, hi, byteAt, baseOf, leastOf]; omega))
theorem beg43 (c d e : UInt8) (h : 240 ≤ c.toNat) (h2 : c.toNat ≤ 244) (hd : ok4 c d) : beginsB [c, d, e] 4 = decide (128 ≤ e.toNat ∧ e.toNat ≤ 191) :=
  bool_of ((beg_iff _ _).trans (by unfold ok4 at hd; simp [contTo, lo, hi, byteAt, baseOf, leastOf, List.range_succ]; omega))
theorem beg44 (c d e f : UInt8) (h : 240 ≤ c.toNat) (h2 : c.toNat ≤ 244) (hd : ok4 c d) (he : 128 ≤ e.toNat ∧ e.toNat ≤ 191) : beginsB [c, d, e, f] 4 = decide (128 ≤ f.toNat ∧ f.toNat ≤ 191) :=
  bool_of ((beg_iff _ _).trans (by unfold ok4 at hd; simp [contTo, lo, hi, byteAt, baseOf, leastOf, List.range_succ]; omega))
theorem take1 (c : UInt8) (r : List UInt8) : (c :: r).take 1 = [c] := rfl
theorem wrong_step (l : List UInt8) (size f n : Nat) : wrongFrom l size (f + 1) n = if l.length < n then 4 else if beginsB (l.take n) size = false then 12 else wrongFrom l size f (n + 1) := rfl
theorem refNext_eq (l : List UInt8) : refNextP l = nextP l := by
  match l with
  | [] => rfl
  | c :: r =>
    have hc := u8_lt c
    rw [refNextP]
    by_cases h1 : c.toNat < 128
    · rw [if_pos h1, next1 r h1]
    · rw [if_neg h1]
      by_cases h2 : c.toNat < 192 ∨ 247 < c.toNat
      · rw [if_pos h2, next_bad r h1 (by omega)]
      · rw [if_neg h2]
        by_cases h3 : c.toNat < 224
        · have e : sizeOf8 c.toNat = 2 := by unfold sizeOf8; rw [if_pos h3]
          rw [e]
          have w1 : wrongFrom (c :: r) 2 2 1 = if beginsB [c] 2 = false then 12 else wrongFrom (c :: r) 2 1 2 := by
            rw [wrong_step, if_neg (by simp)]; rfl
          rw [beg21 c (by omega) h3] at w1
          by_cases h4 : 194 ≤ c.toNat
          · rw [decide_eq_true h4, if_neg (show ¬ (true = false) by simp)] at w1
            rw [next2 r (by omega) h3, w1]
            match r with
            | [] => rfl
            | d :: r =>
              have w2 : wrongFrom (c :: d :: r) 2 1 2 = if beginsB [c, d] 2 = false then 12 else 0 := by
                rw [wrong_step, if_neg (by simp)]; rfl
              rw [w2, beg22 c d h4 h3, next2P]
              by_cases hd : 128 ≤ d.toNat ∧ d.toNat ≤ 191
              · rw [decide_eq_true hd, if_neg (show ¬ (true = false) by simp), if_pos rfl, if_neg (by omega)]
                simp [lo, byteAt, baseOf]; omega
              · rw [decide_eq_false hd, if_pos rfl, if_neg (by decide), if_pos (by omega)]
          · rw [next_bad r h1 (by omega), w1, decide_eq_false h4, if_pos rfl]; rfl
        · by_cases h5 : c.toNat < 240
          · have e : sizeOf8 c.toNat = 3 := by unfold sizeOf8; rw [if_neg h3, if_pos h5]
            rw [e]
            have w1 : wrongFrom (c :: r) 3 3 1 = if beginsB [c] 3 = false then 12 else wrongFrom (c :: r) 3 2 2 := by
              rw [wrong_step, if_neg (by simp)]; rfl
            rw [beg31 c (by omega) h5, if_neg (by simp)] at w1
            rw [next3 r h3 h5, w1]
            match r with
            | [] => rfl
            | d :: r =>
              have w2 : wrongFrom (c :: d :: r) 3 2 2 = if beginsB [c, d] 3 = false then 12 else wrongFrom (c :: d :: r) 3 1 3 := by
                rw [wrong_step, if_neg (by simp)]; rfl
              rw [w2, beg32 c d (by omega) h5, next3P]
              by_cases hd : ok3 c d
              · rw [decide_eq_true hd, if_neg (show ¬ (true = false) by simp), if_pos hd]
                match r with
                | [] => rfl
                | f :: r =>
                  have w3 : wrongFrom (c :: d :: f :: r) 3 1 3 = if beginsB [c, d, f] 3 = false then 12 else 0 := by
                    rw [wrong_step, if_neg (by simp)]; rfl
                  rw [w3, beg33 c d f (by omega) h5 hd, next3Q]
                  by_cases hf : 128 ≤ f.toNat ∧ f.toNat ≤ 191
                  · rw [decide_eq_true hf, if_neg (show ¬ (true = false) by simp), if_pos rfl, if_neg (by omega)]
                    simp [lo, byteAt, baseOf]; omega
                  · rw [decide_eq_false hf, if_pos rfl, if_neg (by decide), if_pos (by omega)]
              · rw [decide_eq_false hd, if_pos rfl, if_neg (by decide), if_neg hd]
          · have e : sizeOf8 c.toNat = 4 := by unfold sizeOf8; rw [if_neg h3, if_neg h5]
            rw [e]
            have w1 : wrongFrom (c :: r) 4 4 1 = if beginsB [c] 4 = false then 12 else wrongFrom (c :: r) 4 3 2 := by
              rw [wrong_step, if_neg (by simp)]; rfl
            rw [beg41 c (by omega) (by omega)] at w1
            by_cases h6 : c.toNat ≤ 244
            · rw [next4 r h5 (by omega), w1, decide_eq_true h6, if_neg (show ¬ (true = false) by simp)]
              match r with
              | [] => rfl
              | d :: r =>
                have w2 : wrongFrom (c :: d :: r) 4 3 2 = if beginsB [c, d] 4 = false then 12 else wrongFrom (c :: d :: r) 4 2 3 := by
                  rw [wrong_step, if_neg (by simp)]; rfl
                rw [w2, beg42 c d (by omega) h6, next4P]
                by_cases hd : ok4 c d
                · rw [decide_eq_true hd, if_neg (show ¬ (true = false) by simp), if_pos hd]
                  match r with
                  | [] => rfl
                  | f :: r =>
                    have w3 : wrongFrom (c :: d :: f :: r) 4 2 3 = if beginsB [c, d, f] 4 = false then 12 else wrongFrom (c :: d :: f :: r) 4 1 4 := by
                      rw [wrong_step, if_neg (by simp)]; rfl
                    rw [w3, beg43 c d f (by omega) h6 hd, next4Q]
                    by_cases hf : 128 ≤ f.toNat ∧ f.toNat ≤ 191
                    · rw [decide_eq_true hf, if_neg (show ¬ (true = false) by simp), if_neg (show ¬ (f.toNat < 128 ∨ 191 < f.toNat) by omega)]
                      match r with
                      | [] => rfl
                      | g :: r =>
                        have w4 : wrongFrom (c :: d :: f :: g :: r) 4 1 4 = if beginsB [c, d, f, g] 4 = false then 12 else 0 := by
                          rw [wrong_step, if_neg (by simp)]; rfl
                        rw [w4, beg44 c d f g (by omega) h6 hd hf, next4R]
                        by_cases hg : 128 ≤ g.toNat ∧ g.toNat ≤ 191
                        · rw [decide_eq_true hg, if_neg (show ¬ (true = false) by simp), if_pos rfl, if_neg (by omega)]
                          simp [lo, byteAt, baseOf]; omega
                        · rw [decide_eq_false hg, if_pos rfl, if_neg (by decide), if_pos (by omega)]
                    · rw [decide_eq_false hf, if_pos rfl, if_neg (by decide), if_pos (by omega)]
                · rw [decide_eq_false hd, if_pos rfl, if_neg (by decide), if_neg hd]
            · rw [next_bad r h1 (by omega), w1, decide_eq_false h6, if_pos rfl]; rfl
end

section
open Go.RowKit
open Go.Lib (decodeN decodeL)

theorem decN_bad (n b0 b1 b2 b3 : Nat) (h : 128 ≤ b0) (h0 : b0 < 194 ∨ 244 < b0 ∨ n < 2 ∨ ¬ (128 ≤ b1 ∧ b1 ≤ 191) ∨ (224 ≤ b0 ∧ (n < 3 ∨ ¬ (128 ≤ b2 ∧ b2 ≤ 191))) ∨ (240 ≤ b0 ∧ (n < 4 ∨ ¬ (128 ≤ b3 ∧ b3 ≤ 191))) ∨ (b0 = 224 ∧ b1 < 160) ∨ (b0 = 237 ∧ 159 < b1) ∨ (b0 = 240 ∧ b1 < 144) ∨ (b0 = 244 ∧ 143 < b1)) (k0 : b0 < 256) (k1 : b1 < 256) (k2 : b2 < 256) (k3 : b3 < 256) : decodeN n b0 b1 b2 b3 = (65533, 1) := by
  unfold decodeN
  rw [if_neg (by omega)]
  split
  · rw [if_neg (by omega)]
  · split
    · rw [if_neg (by omega)]
    · split
      · rw [if_neg (by omega)]
      · rfl
theorem decN_2 (n b0 b1 b2 b3 : Nat) (h : 194 ≤ b0) (h0 : b0 < 224) (hn : 2 ≤ n) (h1 : 128 ≤ b1) (h2 : b1 ≤ 191) : decodeN n b0 b1 b2 b3 = ((b0 - 192) * 64 + (b1 - 128), 2) := by
  unfold decodeN
  rw [if_neg (by omega), if_pos (by omega), if_pos (by omega)]
  simp only [Prod.mk.injEq, and_true]; omega
theorem decN_3 (n b0 b1 b2 b3 : Nat) (h : 224 ≤ b0) (h0 : b0 < 240) (hn : 3 ≤ n) (h1 : 128 ≤ b1) (h2 : b1 ≤ 191) (h3 : 128 ≤ b2) (h4 : b2 ≤ 191) (h5 : ¬ (b0 = 224 ∧ b1 < 160)) (h6 : ¬ (b0 = 237 ∧ 159 < b1)) : decodeN n b0 b1 b2 b3 = ((b0 - 224) * 4096 + (b1 - 128) * 64 + (b2 - 128), 3) := by
  unfold decodeN
  rw [if_neg (by omega), if_neg (by omega), if_pos (by omega), if_pos (by omega)]
  simp only [Prod.mk.injEq, and_true]; omega
theorem decN_4 (n b0 b1 b2 b3 : Nat) (h : 240 ≤ b0) (h0 : b0 ≤ 244) (hn : 4 ≤ n) (h1 : 128 ≤ b1) (h2 : b1 ≤ 191) (h3 : 128 ≤ b2) (h4 : b2 ≤ 191) (h3' : 128 ≤ b3) (h4' : b3 ≤ 191) (h5 : ¬ (b0 = 240 ∧ b1 < 144)) (h6 : ¬ (b0 = 244 ∧ 143 < b1)) : decodeN n b0 b1 b2 b3 = ((b0 - 240) * 262144 + (b1 - 128) * 4096 + (b2 - 128) * 64 + (b3 - 128), 4) := by
  unfold decodeN
  rw [if_neg (by omega), if_neg (by omega), if_neg (by omega), if_pos (by omega), if_pos (by omega)]
  simp only [Prod.mk.injEq, and_true]; omega
theorem decodeN_1 (n b0 b1 b2 b3 : Nat) (h : b0 < 128) : decodeN n b0 b1 b2 b3 = (b0, 1) := by unfold decodeN; rw [if_pos h]

/-- What decoding gives, by the plain reading. -/
def DecIs (l : List UInt8) : Prop := ((nextP l).2.2 = 0 ∧ ((decodeL l).1 : Int) = (nextP l).1 ∧ ((decodeL l).2 : Int) = (nextP l).2.1) ∨ ((nextP l).2.2 ≠ 0 ∧ decodeL l = (65533, 1))
theorem dec_is (c : UInt8) (r : List UInt8) : DecIs (c :: r) := by
  unfold DecIs
  rw [Lib.decodeL_N]
  have hc := u8_lt c
  have hb1 := u8_lt ((c :: r).getD 1 0)
  have hb2 := u8_lt ((c :: r).getD 2 0)
  have hb3 := u8_lt ((c :: r).getD 3 0)
  rw [show (c :: r).getD 0 0 = c from rfl]
  by_cases h1 : c.toNat < 128
  · rw [next1 r h1, decodeN_1 _ _ _ _ _ h1]; exact Or.inl ⟨rfl, rfl, rfl⟩
  · by_cases h2 : c.toNat < 194 ∨ 244 < c.toNat
    · rw [next_bad r h1 h2, decN_bad _ _ _ _ _ (by omega) (by omega) hc hb1 hb2 hb3]; exact Or.inr ⟨by decide, rfl⟩
    · by_cases h3 : c.toNat < 224
      · rw [next2 r (by omega) h3]
        match r with
        | [] => rw [decN_bad _ _ _ _ _ (by omega) (by simp) hc hb1 hb2 hb3]; exact Or.inr ⟨by simp [next2P], rfl⟩
        | d :: r =>
          rw [next2P]
          rw [show (c :: d :: r).getD 1 0 = d from rfl] at hb1 ⊢
          by_cases hd : d.toNat < 128 ∨ 191 < d.toNat
          · rw [if_pos hd, decN_bad _ _ _ _ _ (by omega) (by omega) hc hb1 hb2 hb3]; exact Or.inr ⟨by decide, rfl⟩
          · rw [if_neg hd, decN_2 _ _ _ _ _ (by omega) h3 (by simp) (by omega) (by omega)]
            exact Or.inl ⟨rfl, by simp only []; omega, rfl⟩
      · by_cases h5 : c.toNat < 240
        · rw [next3 r h3 h5]
          match r with
          | [] => rw [decN_bad _ _ _ _ _ (by omega) (by simp) hc hb1 hb2 hb3]; exact Or.inr ⟨by simp [next3P], rfl⟩
          | d :: r =>
            rw [next3P]
            rw [show (c :: d :: r).getD 1 0 = d from rfl] at hb1 ⊢
            by_cases hd : ok3 c d
            · rw [if_pos hd]
              unfold ok3 at hd
              match r with
              | [] => rw [decN_bad _ _ _ _ _ (by omega) (by simp; omega) hc hb1 hb2 hb3]; exact Or.inr ⟨by simp [next3Q], rfl⟩
              | e :: r =>
                rw [next3Q]
                rw [show (c :: d :: e :: r).getD 2 0 = e from rfl] at hb2 ⊢
                by_cases he : e.toNat < 128 ∨ 191 < e.toNat
                · rw [if_pos he, decN_bad _ _ _ _ _ (by omega) (by omega) hc hb1 hb2 hb3]; exact Or.inr ⟨by decide, rfl⟩
                · rw [if_neg he, decN_3 _ _ _ _ _ (by omega) h5 (by simp) (by omega) (by omega) (by omega) (by omega) (by omega) (by omega)]
                  exact Or.inl ⟨rfl, by simp only []; omega, rfl⟩
            · rw [if_neg hd]
              unfold ok3 at hd
              rw [decN_bad _ _ _ _ _ (by omega) (by omega) hc hb1 hb2 hb3]; exact Or.inr ⟨by decide, rfl⟩
        · rw [next4 r h5 (by omega)]
          match r with
          | [] => rw [decN_bad _ _ _ _ _ (by omega) (by simp) hc hb1 hb2 hb3]; exact Or.inr ⟨by simp [next4P], rfl⟩
          | d :: r =>
            rw [next4P]
            rw [show (c :: d :: r).getD 1 0 = d from rfl] at hb1 ⊢
            by_cases hd : ok4 c d
            · rw [if_pos hd]
              unfold ok4 at hd
              match r with
              | [] => rw [decN_bad _ _ _ _ _ (by omega) (by simp; omega) hc hb1 hb2 hb3]; exact Or.inr ⟨by simp [next4Q], rfl⟩
              | e :: r =>
                rw [next4Q]
                rw [show (c :: d :: e :: r).getD 2 0 = e from rfl] at hb2 ⊢
                by_cases he : e.toNat < 128 ∨ 191 < e.toNat
                · rw [if_pos he, decN_bad _ _ _ _ _ (by omega) (by omega) hc hb1 hb2 hb3]; exact Or.inr ⟨by decide, rfl⟩
                · rw [if_neg he]
                  match r with
                  | [] => rw [decN_bad _ _ _ _ _ (by omega) (by simp; omega) hc hb1 hb2 hb3]; exact Or.inr ⟨by simp [next4R], rfl⟩
                  | f :: r =>
                    rw [next4R]
                    rw [show (c :: d :: e :: f :: r).getD 3 0 = f from rfl] at hb3 ⊢
                    by_cases hf : f.toNat < 128 ∨ 191 < f.toNat
                    · rw [if_pos hf, decN_bad _ _ _ _ _ (by omega) (by omega) hc hb1 hb2 hb3]; exact Or.inr ⟨by decide, rfl⟩
                    · rw [if_neg hf, decN_4 _ _ _ _ _ (by omega) (by omega) (by simp) (by omega) (by omega) (by omega) (by omega) (by omega) (by omega) (by omega) (by omega)]
                      exact Or.inl ⟨rfl, by simp only []; omega, rfl⟩
            · rw [if_neg hd]
              unfold ok4 at hd
              rw [decN_bad _ _ _ _ _ (by omega) (by omega) hc hb1 hb2 hb3]; exact Or.inr ⟨by decide, rfl⟩
/-- The rune that stands for what is none, where it really stands. -/
theorem next_fffd {l : List UInt8} (h : Lib.hasPrefix l [239, 191, 189] = true) : nextP l = (65533, 3, 0) := by
  unfold Lib.hasPrefix at h
  match l, h with
  | [], h => simp [List.isPrefixOf] at h
  | [c], h => simp [List.isPrefixOf] at h
  | [c, d], h => simp [List.isPrefixOf] at h
  | c :: d :: e :: r, h =>
    simp only [List.isPrefixOf, Bool.and_eq_true, beq_iff_eq, Bool.and_true] at h
    obtain ⟨rfl, rfl, rfl⟩ := h
    rfl
theorem fffd_next (c : UInt8) (r : List UInt8) (h : (nextP (c :: r)).2.2 = 0) (h2 : (nextP (c :: r)).1 = 65533) : Lib.hasPrefix (c :: r) [239, 191, 189] = true := by
  have hc := u8_lt c
  by_cases h1 : c.toNat < 128
  · rw [next1 r h1] at h2; simp only [] at h2; omega
  · by_cases h2' : c.toNat < 194 ∨ 244 < c.toNat
    · rw [next_bad r h1 h2'] at h; simp at h
    · by_cases h3 : c.toNat < 224
      · rw [next2 r (by omega) h3] at h h2
        match r with
        | [] => simp [next2P] at h
        | d :: r =>
          rw [next2P] at h h2
          have hd' := u8_lt d
          split at h2
          · simp at h2
          · simp only [] at h2; omega
      · by_cases h5 : c.toNat < 240
        · rw [next3 r h3 h5] at h h2
          match r with
          | [] => simp [next3P] at h
          | d :: r =>
            rw [next3P] at h h2
            by_cases hd : ok3 c d
            · rw [if_pos hd] at h h2
              unfold ok3 at hd
              match r with
              | [] => simp [next3Q] at h
              | e :: r =>
                rw [next3Q] at h h2
                split at h2
                · simp at h2
                · simp only [] at h2
                  have e1 : c = 239 := UInt8.toNat_inj.1 (by show c.toNat = 239; omega)
                  have e2 : d = 191 := UInt8.toNat_inj.1 (by show d.toNat = 191; omega)
                  have e3 : e = 189 := UInt8.toNat_inj.1 (by show e.toNat = 189; omega)
                  subst e1 e2 e3
                  simp [Lib.hasPrefix, List.isPrefixOf]
            · rw [if_neg hd] at h; simp at h
        · rw [next4 r h5 (by omega)] at h h2
          match r with
          | [] => simp [next4P] at h
          | d :: r =>
            rw [next4P] at h h2
            by_cases hd : ok4 c d
            · rw [if_pos hd] at h h2
              unfold ok4 at hd
              match r with
              | [] => simp [next4Q] at h
              | e :: r =>
                rw [next4Q] at h h2
                split at h2
                · simp at h2
                · rename_i he
                  rw [if_neg he] at h
                  match r with
                  | [] => simp [next4R] at h
                  | f :: r =>
                    rw [next4R] at h h2
                    split at h2
                    · simp at h2
                    · simp only [] at h2; omega
            · rw [if_neg hd] at h; simp at h
theorem bad_iff (s : ByteArray) (pos : Nat) (h : pos < s.size) : badAt s pos = decide ((nextP (s.data.toList.drop pos)).2.2 ≠ 0) ∧ ((nextP (s.data.toList.drop pos)).2.2 = 0 → ((Utf8.decode s pos).2 : Int) = (nextP (s.data.toList.drop pos)).2.1) := by
  unfold badAt
  rw [← Lib.decodeL_drop]
  match hl : s.data.toList.drop pos with
  | [] =>
    have := congrArg List.length hl
    rw [List.length_drop, size_len] at this
    simp at this
    omega
  | c :: r =>
    rcases dec_is c r with ⟨h1, h2, h3⟩ | ⟨h1, h2⟩
    · refine ⟨?_, fun _ => h3⟩
      rw [decide_eq_false (p := (nextP (c :: r)).2.2 ≠ 0) (by simpa using h1)]
      by_cases hv : (decodeL (c :: r)).1 = 65533
      · rw [fffd_next c r h1 (by rw [← h2, hv]; rfl)]; simp
      · rw [decide_eq_false hv]; rfl
    · refine ⟨?_, fun h => absurd h h1⟩
      rw [decide_eq_true h1, h2]
      cases hp : Lib.hasPrefix (c :: r) [239, 191, 189] with
      | false => rfl
      | true =>
        rw [next_fffd hp] at h1
        simp at h1
/-- Rune by rune, from a place on. -/
def lenGo (l : List UInt8) : Nat → Bool
  | 0 => true
  | f + 1 => if l = [] then true else if (nextP l).2.2 = 0 then lenGo (l.drop (nextP l).2.1.toNat) f else false
theorem utfGo_len (s : ByteArray) : ∀ (f pos : Nat), utfGo s f pos = lenGo (s.data.toList.drop pos) f
  | 0, _ => rfl
  | f + 1, pos => by
    rw [utfGo, lenGo]
    by_cases hp : pos < s.size
    · have hne : s.data.toList.drop pos ≠ [] := by
        intro e
        have := congrArg List.length e
        rw [List.length_drop, size_len] at this
        simp at this
        omega
      rw [if_pos hp, if_neg hne]
      obtain ⟨h1, h2⟩ := bad_iff s pos hp
      rw [h1]
      by_cases he : (nextP (s.data.toList.drop pos)).2.2 = 0
      · rw [if_neg (by simp [he]), if_pos he, utfGo_len s f, List.drop_drop]
        have := h2 he
        rw [show (nextP (s.data.toList.drop pos)).2.1.toNat = (Utf8.decode s pos).2 by omega]
      · rw [if_pos (by simp [he]), if_neg he]
    · rw [if_neg hp, if_pos (List.drop_of_length_le (by rw [size_len]; omega))]
theorem utfOK_len (s : ByteArray) : utfOK s = lenGo s.data.toList s.size := by rw [utfOK, utfGo_len, List.drop_zero]
end

section
open Go.RowKit

theorem byte_bd (l : List UInt8) (i : Nat) : 0 ≤ byteAt l i ∧ byteAt l i ≤ 255 := by
  unfold byteAt
  have := u8_lt (l.getD i 0)
  omega
theorem lo_bd (l : List UInt8) (base : Int) (h0 : 0 ≤ base) (h1 : base ≤ 255) (k : Nat) (hk : k ≤ 3) : -100000000 ≤ lo l base k ∧ lo l base k ≤ 100000000 := by
  have b0 := byte_bd l 0
  have b1 := byte_bd l (0 + 1)
  have b2 := byte_bd l (1 + 1)
  have b3 := byte_bd l (2 + 1)
  match k, hk with
  | 0, _ => simp only [lo]; omega
  | 1, _ => simp only [lo]; split <;> omega
  | 2, _ => simp only [lo]; split <;> split <;> omega
  | 3, _ => simp only [lo]; split <;> split <;> split <;> omega
theorem hi_bd (l : List UInt8) (base : Int) (h0 : 0 ≤ base) (h1 : base ≤ 255) (k : Nat) (hk : k ≤ 3) : -100000000 ≤ hi l base k ∧ hi l base k ≤ 100000000 := by
  have b0 := byte_bd l 0
  have b1 := byte_bd l (0 + 1)
  have b2 := byte_bd l (1 + 1)
  have b3 := byte_bd l (2 + 1)
  match k, hk with
  | 0, _ => simp only [hi]; omega
  | 1, _ => simp only [hi]; split <;> omega
  | 2, _ => simp only [hi]; split <;> split <;> omega
  | 3, _ => simp only [hi]; split <;> split <;> split <;> omega
theorem byte_get (t : ByteArray) (i : Nat) (h : i < t.size) : byteAt t.data.toList i = (t[i].toNat : Int) := by
  unfold byteAt
  rw [List.getD_eq_getElem?_getD, Lib.data_getElem? t i h]
  rfl
theorem contTo_step (l : List UInt8) (k : Nat) : contTo l (k + 1) = (contTo l k && (decide (128 ≤ byteAt l (k + 1)) && decide (byteAt l (k + 1) ≤ 191))) := by
  unfold contTo
  rw [List.range_succ, List.all_append]
  simp

theorem contTo_no {l : List UInt8} {k m : Nat} (hk : k < m) (h : byteAt l (k + 1) < 128 ∨ 191 < byteAt l (k + 1)) : contTo l m = false := by
  unfold contTo
  rw [List.all_eq_false]
  refine ⟨k, List.mem_range.2 hk, ?_⟩
  simp only [Bool.and_eq_true, decide_eq_true_eq]
  omega
theorem beg_no {l : List UInt8} {size k : Nat} (hk : k + 1 < l.length) (hk2 : k + 1 < size) (h : byteAt l (k + 1) < 128 ∨ 191 < byteAt l (k + 1)) : beginsB l size = false := by
  unfold beginsB
  rw [contTo_no (k := k) (by omega) h]; rfl

theorem wrong_ok {l : List UInt8} {size : Nat} : ∀ {f n : Nat}, wrongFrom l size f n = 0 → ∀ k, n ≤ k → k < n + f → k ≤ l.length ∧ beginsB (l.take k) size = true
  | 0, n, _, k, h1, h2 => by omega
  | f + 1, n, h, k, h1, h2 => by
    rw [wrong_step] at h
    by_cases hl : l.length < n
    · rw [if_pos hl] at h; exact absurd h (by decide)
    · rw [if_neg hl] at h
      by_cases hb : beginsB (l.take n) size = false
      · rw [if_pos hb] at h; exact absurd h (by decide)
      · rw [if_neg hb] at h
        by_cases e : k = n
        · subst e; exact ⟨by omega, by simpa using hb⟩
        · exact wrong_ok h k (by omega) (by omega)
theorem byteAt_take {l : List UInt8} {n i : Nat} (h : i < n) : byteAt (l.take n) i = byteAt l i := by
  unfold byteAt
  rw [List.getD_eq_getElem?_getD, List.getD_eq_getElem?_getD, List.getElem?_take, if_pos h]
theorem cont_of {l : List UInt8} {size : Nat} (h : beginsB (l.take size) size = true) (hl : size ≤ l.length) {i : Nat} (hi : i + 1 < size) : 128 ≤ byteAt l (i + 1) ∧ byteAt l (i + 1) ≤ 191 := by
  have h1 := ((beg_iff _ _).1 h).1
  rw [List.length_take, Nat.min_eq_left hl, Nat.min_self] at h1
  unfold contTo at h1
  have := List.all_eq_true.1 h1 i (List.mem_range.2 (by omega))
  rw [byteAt_take hi] at this
  simpa using this
theorem ret3i {a a' b b' c c' : Int} (h1 : a = a') (h2 : b = b') (h3 : c = c') : Ending.returned (.tuple #[.int .i64 a, .int .i64 b, .int .i64 c]) = .returned (.tuple #[.int .i64 a', .int .i64 b', .int .i64 c']) := by rw [h1, h2, h3]
theorem byte_drop (s : ByteArray) (a i : Nat) (h : a + i < s.size) : byteAt (s.data.toList.drop a) i = (s[a + i].toNat : Int) := by
  rw [← byte_get s (a + i) h]
  unfold byteAt
  rw [List.getD_eq_getElem?_getD, List.getD_eq_getElem?_getD, List.getElem?_drop]
theorem next_size (l : List UInt8) (h : (nextP l).2.2 = 0) : 1 ≤ (nextP l).2.1 ∧ (nextP l).2.1 ≤ l.length := by
  match l with
  | [] => simp [nextP] at h
  | c :: r =>
    by_cases h1 : c.toNat < 128
    · rw [next1 r h1]; simp; omega
    · by_cases h2 : c.toNat < 194 ∨ 244 < c.toNat
      · rw [next_bad r h1 h2] at h; simp at h
      · by_cases h3 : c.toNat < 224
        · rw [next2 r (by omega) h3] at h ⊢
          match r with
          | [] => simp [next2P] at h
          | d :: r =>
            rw [next2P] at h ⊢
            split at h
            · simp at h
            · rename_i hd; rw [if_neg hd]; simp; omega
        · by_cases h5 : c.toNat < 240
          · rw [next3 r h3 h5] at h ⊢
            match r with
            | [] => simp [next3P] at h
            | d :: r =>
              rw [next3P] at h ⊢
              split at h
              · rename_i hd
                rw [if_pos hd]
                match r with
                | [] => simp [next3Q] at h
                | e :: r =>
                  rw [next3Q] at h ⊢
                  split at h
                  · simp at h
                  · rename_i he; rw [if_neg he]; simp; omega
              · simp at h
          · rw [next4 r h5 (by omega)] at h ⊢
            match r with
            | [] => simp [next4P] at h
            | d :: r =>
              rw [next4P] at h ⊢
              split at h
              · rename_i hd
                rw [if_pos hd]
                match r with
                | [] => simp [next4Q] at h
                | e :: r =>
                  rw [next4Q] at h ⊢
                  split at h
                  · simp at h
                  · rename_i he
                    rw [if_neg he]
                    match r with
                    | [] => simp [next4R] at h
                    | f :: r =>
                      rw [next4R] at h ⊢
                      split at h
                      · simp at h
                      · rename_i hf; rw [if_neg hf]; simp; omega
              · simp at h
def RefLenPost (s : ByteArray) (w : World) (e : Ending) (w' : World) : Prop :=
  ∃ n : Int, e = .returned (.tuple #[.int .i64 n, .bool (utfOK s)]) ∧ Below w.heap.size w w'
end
end Go.Proofs.YtoeepggcklaaoaaDoor
