/-
  quote.Read, from its digits on.
-/
import Derived.Test.YtkflnbmbkilicaaDoorLexPlain
import Derived.Test.YtkflnbmbkilicaaDoorBuilder
namespace Go.Proofs.YtkflnbmbkilicaaDoor
open Go.RowKit

theorem ret_ib {a a' : Int} {b b' : Bool} (h1 : a = a') (h2 : b = b') : Ending.returned (.tuple #[.int .i64 a, .bool b]) = .returned (.tuple #[.int .i64 a', .bool b']) := by rw [h1, h2]
theorem hexV_1 {c : UInt8} (h : 48 ≤ c.toNat ∧ c.toNat ≤ 57) : hexV c = (c.toNat : Int) - 48 := by unfold hexV; rw [if_pos h]
theorem hexV_2 {c : UInt8} (h : 97 ≤ c.toNat ∧ c.toNat ≤ 102) : hexV c = (c.toNat : Int) - 87 := by unfold hexV; rw [if_neg (by omega), if_pos h]
theorem hexV_3 {c : UInt8} (h : 65 ≤ c.toNat ∧ c.toNat ≤ 70) : hexV c = (c.toNat : Int) - 55 := by unfold hexV; rw [if_neg (by omega), if_neg (by omega), if_pos h]
theorem hexV_0 {c : UInt8} (h1 : ¬ (48 ≤ c.toNat ∧ c.toNat ≤ 57)) (h2 : ¬ (97 ≤ c.toNat ∧ c.toNat ≤ 102)) (h3 : ¬ (65 ≤ c.toNat ∧ c.toNat ≤ 70)) : hexV c = -1 := by unfold hexV; rw [if_neg h1, if_neg h2, if_neg h3]
/-- A digit's answer: its worth, and whether it is one. -/
def digR (c : UInt8) : Value := .tuple #[.int .i64 (if hexV c < 0 then 0 else hexV c), .bool (!decide (hexV c < 0))]
theorem digR_yes {c : UInt8} {v : Int} (h : hexV c = v) (hv : 0 ≤ v) : digR c = .tuple #[.int .i64 v, .bool true] := by
  unfold digR; rw [h, if_neg (by omega), decide_eq_false (by omega)]; rfl
theorem digR_no {c : UInt8} (h : hexV c = -1) : digR c = .tuple #[.int .i64 0, .bool false] := by
  unfold digR; rw [h]; rfl
set_option maxRecDepth 100000 in
set_option maxHeartbeats 1000000 in
theorem hexDigit_any (s : ByteArray) (a : Nat) (w : World) (_hs : s.size ≤ 281474976710656) (h : a < s.size) (hn : ¬ (65 ≤ s[a].toNat ∧ s[a].toNat ≤ 70)) :
    Calls Tryd.prog 117 #[.string s, .int .i64 a] w fun e w' => e = .returned (digR s[a]) ∧ w = w' := by
  have hc := u8_lt s[a]
  have d1 : (s[a].toNat : Int) ≤ 255 := by omega
  have d2 : (0 : Int) ≤ (s[a].toNat : Int) := by omega
  have d3 : ¬ (s.size : Int) ≤ (a : Int) := by omega
  by_cases h1 : 48 ≤ s[a].toNat ∧ s[a].toNat ≤ 57
  · rw [digR_yes (hexV_1 h1) (by omega)]
    have e1 : (48 : Int) ≤ (s[a].toNat : Int) := by omega
    have e2 : (s[a].toNat : Int) ≤ 57 := by omega
    clear h1 hn hc
    go_enter Tryd.func117, Tryd.ntmps117
    go_wp2_with fail
    go_ret2
    exact ⟨rfl, rfl⟩
  · by_cases h2 : 97 ≤ s[a].toNat ∧ s[a].toNat ≤ 102
    · rw [digR_yes (hexV_2 h2) (by omega)]
      have e0 : ¬ (s[a].toNat : Int) ≤ 57 := by omega
      have e1 : (97 : Int) ≤ (s[a].toNat : Int) := by omega
      have e2 : (s[a].toNat : Int) ≤ 102 := by omega
      clear h1 h2 hn hc
      go_enter Tryd.func117, Tryd.ntmps117
      go_wp2_with fail
      go_ret2
      exact ⟨ret_ib (by omega) rfl, rfl⟩
    · rw [digR_no (hexV_0 h1 h2 hn)]
      have k1 : ¬ ((48 : Int) ≤ (s[a].toNat : Int) ∧ (s[a].toNat : Int) ≤ 57) := by omega
      have k2 : ¬ ((97 : Int) ≤ (s[a].toNat : Int) ∧ (s[a].toNat : Int) ≤ 102) := by omega
      have k3 : (48 : Int) ≤ (s[a].toNat : Int) → ¬ (s[a].toNat : Int) ≤ 57 := by omega
      have HK := Lib.hid (And.intro k1 k2)
      clear h1 h2 hn hc k1 k2 k3
      go_enter Tryd.func117, Tryd.ntmps117
      go_wp2_with fail
      all_goals first
        | (go_ret2; exact ⟨rfl, rfl⟩)
        | (exfalso; have := HK.out; omega)
set_option maxRecDepth 100000 in
set_option maxHeartbeats 1000000 in
theorem quoteDigit_any (s : ByteArray) (a : Nat) (w : World) (hs : s.size ≤ 281474976710656) (h : a < s.size) :
    Calls Tryd.prog 113 #[.string s, .int .i64 a] w fun e w' => e = .returned (digR s[a]) ∧ w = w' := by
  have hc := u8_lt s[a]
  have d1 : (s[a].toNat : Int) ≤ 255 := by omega
  have d2 : (0 : Int) ≤ (s[a].toNat : Int) := by omega
  by_cases h1 : 65 ≤ s[a].toNat ∧ s[a].toNat ≤ 70
  · rw [digR_yes (hexV_3 h1) (by omega)]
    have e1 : (65 : Int) ≤ (s[a].toNat : Int) := by omega
    have e2 : (s[a].toNat : Int) ≤ 70 := by omega
    clear h1 hc
    go_enter Tryd.func113, Tryd.ntmps113
    go_wp2_with fail
    go_ret2
    exact ⟨ret_ib (by omega) rfl, rfl⟩
  · have hcall := hexDigit_any s a w hs h h1
    have HC := Lib.hid hcall
    obtain ⟨x, y, hxy⟩ : ∃ x y, digR s[a] = .tuple #[.int .i64 x, .bool y] := ⟨_, _, rfl⟩
    have HXY := Lib.hid hxy
    have HK := Lib.hid (show ¬ ((65 : Int) ≤ (s[a].toNat : Int) ∧ (s[a].toNat : Int) ≤ 70) by omega)
    rw [hxy]
    clear hcall hxy h1 hc
    go_enter Tryd.func113, Tryd.ntmps113
    go_wp2_with fail
    all_goals first
      | (exfalso; have := HK.out; omega)
      | (refine HC.out.mono ?_
         rintro e w2 ⟨rfl, rfl⟩
         rw [HXY.out]
         go_wp2_with fail
         go_ret2
         exact ⟨rfl, rfl⟩)
theorem or_16 (n d : Nat) (hn : n < 1000000) (hd : d < 16) : bits .or .i64 ((n : Int) * 16) (d : Int) = (n : Int) * 16 + d := by
  have h1 : ((n : Int) * 16) = ((n * 16 : Nat) : Int) := by omega
  rw [h1]
  show IntKind.i64.wrap ((BitVec.ofInt 64 ((n * 16 : Nat) : Int) ||| BitVec.ofInt 64 (d : Int)).toNat : Int) = _
  have e1 : (BitVec.ofInt 64 ((n * 16 : Nat) : Int)).toNat = n * 16 := by
    rw [BitVec.ofInt_natCast, BitVec.toNat_ofNat]; exact Nat.mod_eq_of_lt (by omega)
  have e2 : (BitVec.ofInt 64 (d : Int)).toNat = d := by
    rw [BitVec.ofInt_natCast, BitVec.toNat_ofNat]; exact Nat.mod_eq_of_lt (by omega)
  rw [BitVec.toNat_or, e1, e2]
  have e3 : n * 16 ||| d = n * 16 + d := by
    have := Nat.two_pow_add_eq_or_of_lt (i := 4) (b := d) (by omega) n
    rw [show (2 : Nat) ^ 4 * n = n * 16 by omega] at this
    exact this.symm
  rw [e3, IntKind.wrap_i64]
  omega
/-- What digits come to. -/
def foldD (ds : List Nat) : Nat := ds.foldl (fun a d => a * 16 + d) 0
theorem foldD_snoc (l : List Nat) (d : Nat) : foldD (l ++ [d]) = foldD l * 16 + d := by simp [foldD]
theorem foldl_bd : ∀ (l : List Nat) (a k : Nat), a < 16 ^ k → (∀ d ∈ l, d < 16) → l.foldl (fun a d => a * 16 + d) a < 16 ^ (k + l.length)
  | [], a, k, h, _ => by simpa using h
  | d :: r, a, k, h, hd => by
    have h1 := hd d (by simp)
    have h2 := foldl_bd r (a * 16 + d) (k + 1) (by rw [Nat.pow_succ]; omega) (fun x hx => hd x (by simp [hx]))
    rw [List.foldl_cons, List.length_cons, show k + (r.length + 1) = k + 1 + r.length by omega]
    exact h2
theorem foldD_bd (l : List Nat) (h : ∀ d ∈ l, d < 16) : foldD l < 16 ^ l.length := by
  have := foldl_bd l 0 0 (by decide) h
  rwa [Nat.zero_add] at this
set_option maxRecDepth 100000 in
set_option maxHeartbeats 1000000 in
theorem quoteNumber_any (b cap : Nat) (ds : List Nat) (w : World) (hl : ds.length = 4) (hd : ∀ d ∈ ds, d < 16) (hc : ∀ (j d : Nat), ds[j]? = some d → w.cell? ⟨b, j, none⟩ = some (.int .i64 (d : Int))) :
    Calls Tryd.prog 114 #[.slice (some ⟨b, 0, none⟩) 4 cap] w fun e w' => e = .returned (.int .i64 (foldD ds)) ∧ w = w' := by
  have HL := Lib.hid hl
  have HD := Lib.hid hd
  have HC := Lib.hid hc
  clear hl hd hc
  go_enter Tryd.func114, Tryd.ntmps114
  go_wp2_with fail
  go_loop [3, 8] (fun n i => ∃ (j m : Nat), j ≤ 4 ∧ i = .int .i64 j ∧ n = .int .i64 m ∧ m < 65536 ∧ Hid (m = foldD (ds.take j))) (fun _ i => 4 - (intOf i).toNat)
  case atStart => exact ⟨0, 0, by omega, rfl, rfl, by omega, rfl⟩
  case round =>
    obtain ⟨j, m, hj, rfl, rfl, hm, HM⟩ := hrel
    by_cases hjl : j < 4
    · obtain ⟨d, hd⟩ : ∃ x, ds[j]? = some x := ⟨_, List.getElem?_eq_getElem (by rw [HL.out]; exact hjl)⟩
      have hcell := HC.out j d hd
      have hd16 := HD.out d (List.mem_of_getElem? hd)
      have hm2 : m < 4096 := by
        have h1 := foldD_bd (ds.take j) (fun x hx => HD.out x (List.mem_of_mem_take hx))
        rw [← HM.out, List.length_take, HL.out] at h1
        have h2 : (16 : Nat) ^ min j 4 ≤ 16 ^ 3 := Nat.pow_le_pow_right (by decide) (by omega)
        omega
      have hor := or_16 m d (by omega) hd16
      have hj0 : (0 : Int) ≤ (j : Int) := by omega
      have hj1 : (j : Int) < 4 := by omega
      have Hd := Lib.hid hd
      clear hd
      go_wp2_with fail
      refine ⟨⟨j + 1, m * 16 + d, by omega, by go_num, by go_num, by omega, ?_⟩, by simp [intOf]; omega⟩
      show m * 16 + d = _
      rw [List.take_add_one, Hd.out, HM.out]
      exact (foldD_snoc _ _).symm
    · have hall : m = foldD ds := by
        have := HM.out
        rwa [List.take_of_length_le (by rw [HL.out]; omega)] at this
      have HALL := Lib.hid hall
      clear hall
      go_wp2_with fail
      go_ret
      exact ⟨ret_int (by rw [HALL.out]), rfl⟩
end Go.Proofs.YtkflnbmbkilicaaDoor
