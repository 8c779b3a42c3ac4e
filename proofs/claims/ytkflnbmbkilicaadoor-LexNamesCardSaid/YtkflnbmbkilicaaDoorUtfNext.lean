/-
  utf.lead, utf.Next.
-/
import Derived.Test.YtkflnbmbkilicaaDoorLexPlain
namespace Go.Proofs.YtkflnbmbkilicaaDoor
open Go.RowKit

def leadP (c : Int) : Int × Int × Int := if c < 128 then (1, 0, 0) else if c < 194 then (0, 0, 0) else if c < 224 then (2, 128, 191) else if c = 224 then (3, 160, 191) else if c = 237 then (3, 128, 159) else if c < 240 then (3, 128, 191) else if c = 240 then (4, 144, 191) else if c < 244 then (4, 128, 191) else if c = 244 then (4, 128, 143) else (0, 0, 0)
theorem ret_lead {a a' b b' c c' : Int} (h : (a, b, c) = (a', b', c')) : Ending.returned (.tuple #[.int .i64 a, .int .u8 b, .int .u8 c]) = .returned (.tuple #[.int .i64 a', .int .u8 b', .int .u8 c']) := by
  simp only [Prod.mk.injEq] at h
  rw [h.1, h.2.1, h.2.2]
set_option maxRecDepth 100000 in
set_option maxHeartbeats 2000000 in
theorem lead_any (c : Int) (w : World) (h0 : 0 ≤ c) (h1 : c ≤ 255) (x y z : Int) (h : Hid (leadP c = (x, y, z))) :
    Calls Tryd.prog 85 #[.int .u8 c] w fun e w' => e = .returned (.tuple #[.int .i64 x, .int .u8 y, .int .u8 z]) ∧ w = w' := by
  go_enter Tryd.func85, Tryd.ntmps85
  go_wp2_with fail
  all_goals
    go_ret3
    refine ⟨ret_lead ?_, rfl⟩
    rw [← h.out]
    clear h
    unfold leadP
    (try simp only [beq_iff_eq, beq_eq_false_iff_ne, ne_eq] at *)
    (repeat (first | rw [if_pos (by omega)] | rw [if_neg (by omega)]))
theorem and_low (c k : Nat) (hc : c < 256) (hk : k ≤ 6) : bits .and .i64 (c : Int) ((2 ^ k - 1 : Nat) : Int) = ((c % 2 ^ k : Nat) : Int) := by
  have hp : 2 ^ k ≤ 2 ^ 6 := Nat.pow_le_pow_right (by decide) hk
  have hp0 : 0 < 2 ^ k := Nat.pow_pos (by decide)
  have hm : c % 2 ^ k < 2 ^ k := Nat.mod_lt _ hp0
  show IntKind.i64.wrap ((BitVec.ofInt 64 (c : Int) &&& BitVec.ofInt 64 ((2 ^ k - 1 : Nat) : Int)).toNat : Int) = _
  have e1 : (BitVec.ofInt 64 (c : Int)).toNat = c := by rw [BitVec.ofInt_natCast, BitVec.toNat_ofNat]; exact Nat.mod_eq_of_lt (by omega)
  have e2 : (BitVec.ofInt 64 ((2 ^ k - 1 : Nat) : Int)).toNat = 2 ^ k - 1 := by rw [BitVec.ofInt_natCast, BitVec.toNat_ofNat]; exact Nat.mod_eq_of_lt (by omega)
  rw [BitVec.toNat_and, e1, e2, Nat.and_two_pow_sub_one_eq_mod, IntKind.wrap_i64]
  omega
theorem and_63 (d : Nat) (hd : d < 256) : bits .and .u8 (d : Int) 63 = ((d % 64 : Nat) : Int) := by
  show IntKind.u8.wrap ((BitVec.ofInt 8 (d : Int) &&& BitVec.ofInt 8 ((63 : Nat) : Int)).toNat : Int) = _
  have e1 : (BitVec.ofInt 8 (d : Int)).toNat = d := by rw [BitVec.ofInt_natCast, BitVec.toNat_ofNat]; exact Nat.mod_eq_of_lt (by omega)
  have e2 : (BitVec.ofInt 8 ((63 : Nat) : Int)).toNat = 2 ^ 6 - 1 := by rw [BitVec.ofInt_natCast, BitVec.toNat_ofNat]
  rw [BitVec.toNat_and, e1, e2, Nat.and_two_pow_sub_one_eq_mod, IntKind.wrap_u8]
  omega
theorem or_64 (n d : Nat) (hn : n < 10000000) (hd : d < 64) : bits .or .i64 ((n : Int) * 64) (d : Int) = (n : Int) * 64 + d := by
  have h1 : ((n : Int) * 64) = ((n * 64 : Nat) : Int) := by omega
  rw [h1]
  show IntKind.i64.wrap ((BitVec.ofInt 64 ((n * 64 : Nat) : Int) ||| BitVec.ofInt 64 (d : Int)).toNat : Int) = _
  have e1 : (BitVec.ofInt 64 ((n * 64 : Nat) : Int)).toNat = n * 64 := by
    rw [BitVec.ofInt_natCast, BitVec.toNat_ofNat]; exact Nat.mod_eq_of_lt (by omega)
  have e2 : (BitVec.ofInt 64 (d : Int)).toNat = d := by
    rw [BitVec.ofInt_natCast, BitVec.toNat_ofNat]; exact Nat.mod_eq_of_lt (by omega)
  rw [BitVec.toNat_or, e1, e2]
  have e3 : n * 64 ||| d = n * 64 + d := by
    have := Nat.two_pow_add_eq_or_of_lt (i := 6) (b := d) (by omega) n
    rw [show (2 : Nat) ^ 6 * n = n * 64 by omega] at this
    exact this.symm
  rw [e3, IntKind.wrap_i64]
  omega
/-- The bytes behind a first one: the rune, or the error. -/
def contP : Nat → Nat → Nat → Nat → List UInt8 → Nat × Int
  | 0, m, _, _, _ => (m, 0)
  | _ + 1, _, _, _, [] => (0, 4)
  | j + 1, m, lo, hi, d :: r => if d.toNat < lo ∨ hi < d.toNat then (0, 12) else contP j (m * 64 + d.toNat % 64) 128 191 r
def contR (n : Nat) (p : Nat × Int) : Int × Int × Int := if p.2 = 0 then ((p.1 : Int), (n : Int), 0) else (0, 0, p.2)
theorem cont2 (c : UInt8) (r : List UInt8) (h : ¬ c.toNat < 194) (h2 : c.toNat < 224) : nextP (c :: r) = contR 2 (contP 1 (c.toNat % 32) 128 191 r) := by
  rw [next2 r h h2]
  match r with
  | [] => rfl
  | d :: r =>
    rw [next2P, contP]
    by_cases hd : d.toNat < 128 ∨ 191 < d.toNat
    · rw [if_pos hd, if_pos hd]; rfl
    · rw [if_neg hd, if_neg hd, contP, contR]
      simp only [if_true, Prod.mk.injEq, and_true]
      exact ⟨by omega, rfl⟩
theorem cont3 (c : UInt8) (r : List UInt8) (h : ¬ c.toNat < 224) (h2 : c.toNat < 240) (lw hg : Nat) (hl : (c.toNat = 224 ∧ lw = 160 ∧ hg = 191) ∨ (c.toNat = 237 ∧ lw = 128 ∧ hg = 159) ∨ (c.toNat ≠ 224 ∧ c.toNat ≠ 237 ∧ lw = 128 ∧ hg = 191)) : nextP (c :: r) = contR 3 (contP 2 (c.toNat % 16) lw hg r) := by
  rw [next3 r h h2]
  match r with
  | [] => rfl
  | d :: r =>
    rw [next3P, contP]
    by_cases hd : ok3 c d
    · rw [if_pos hd]
      unfold ok3 at hd
      rw [if_neg (by omega)]
      match r with
      | [] => rfl
      | e :: r =>
        rw [next3Q, contP]
        by_cases he : e.toNat < 128 ∨ 191 < e.toNat
        · rw [if_pos he, if_pos he]; rfl
        · rw [if_neg he, if_neg he, contP, contR]
          simp only [if_true, Prod.mk.injEq, and_true]
          exact ⟨by omega, rfl⟩
    · rw [if_neg hd]
      unfold ok3 at hd
      rw [if_pos (by omega)]; rfl
theorem cont4 (c : UInt8) (r : List UInt8) (h : ¬ c.toNat < 240) (h2 : ¬ 244 < c.toNat) (lw hg : Nat) (hl : (c.toNat = 240 ∧ lw = 144 ∧ hg = 191) ∨ (c.toNat = 244 ∧ lw = 128 ∧ hg = 143) ∨ (c.toNat ≠ 240 ∧ c.toNat ≠ 244 ∧ lw = 128 ∧ hg = 191)) : nextP (c :: r) = contR 4 (contP 3 (c.toNat % 8) lw hg r) := by
  rw [next4 r h h2]
  match r with
  | [] => rfl
  | d :: r =>
    rw [next4P, contP]
    by_cases hd : ok4 c d
    · rw [if_pos hd]
      unfold ok4 at hd
      rw [if_neg (by omega)]
      match r with
      | [] => rfl
      | e :: r =>
        rw [next4Q, contP]
        by_cases he : e.toNat < 128 ∨ 191 < e.toNat
        · rw [if_pos he, if_pos he]; rfl
        · rw [if_neg he, if_neg he]
          match r with
          | [] => rfl
          | f :: r =>
            rw [next4R, contP]
            by_cases hf : f.toNat < 128 ∨ 191 < f.toNat
            · rw [if_pos hf, if_pos hf]; rfl
            · rw [if_neg hf, if_neg hf, contP, contR]
              simp only [if_true, Prod.mk.injEq, and_true]
              exact ⟨by omega, rfl⟩
    · rw [if_neg hd]
      unfold ok4 at hd
      rw [if_pos (by omega)]; rfl
end Go.Proofs.YtkflnbmbkilicaaDoor
