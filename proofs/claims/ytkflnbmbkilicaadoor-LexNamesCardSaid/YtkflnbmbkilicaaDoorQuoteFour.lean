/-
  quote.four: the number of four hexadecimal digits.
-/
import Derived.Test.YtkflnbmbkilicaaDoorQuoteRead
import Derived.Test.YtkflnbmbkilicaaDoorMemo
namespace Go.Proofs.YtkflnbmbkilicaaDoor
open Go.RowKit

theorem ret_ii {a a' b b' : Int} (h1 : a = a') (h2 : b = b') : Ending.returned (.tuple #[.int .i64 a, .int .i64 b]) = .returned (.tuple #[.int .i64 a', .int .i64 b']) := by rw [h1, h2]
theorem drop_none {s : ByteArray} {a : Nat} (h : s.size ≤ a) : s.data.toList.drop a = [] := List.drop_of_length_le (by rw [size_len]; exact h)
theorem drop_at {s : ByteArray} {a : Nat} (h : a < s.size) : s.data.toList.drop a = s[a] :: s.data.toList.drop (a + 1) := by
  have h1 : a < s.data.toList.length := by rw [size_len]; exact h
  rw [List.drop_eq_getElem_cons h1]
  rfl
theorem hexN {c : UInt8} (h : ¬ hexV c < 0) : ∃ d : Nat, hexV c = (d : Int) ∧ d < 16 := by
  have := hexV_bd c
  exact ⟨(hexV c).toNat, by omega, by omega⟩

set_option maxRecDepth 100000 in
set_option maxHeartbeats 4000000 in
theorem quoteFour_any (s : ByteArray) (a : Nat) (w : World) (hs : s.size ≤ 281474976710656) (ha : a ≤ s.size) (r1 r2 : Int) (hr : Hid (fourP (s.data.toList.drop a) = (r1, r2))) :
    Calls Tryd.prog 106 #[.string s, .int .i64 a] w fun e w' => e = .returned (.tuple #[.int .i64 r1, .int .i64 r2]) ∧ Below w.heap.size w w' := by
  go_enter Tryd.func106, Tryd.ntmps106
  go_wp2_with fail
  go_loopw [10] (fun i wr => ∃ (j n x0 x1 x2 x3 : Nat), j ≤ 4 ∧ i = .int .i64 j ∧ x0 < 16 ∧ x1 < 16 ∧ x2 < 16 ∧ x3 < 16 ∧ a + j ≤ s.size ∧ n < 65536 ∧ Hid (fourGo (4 - j) n (s.data.toList.drop (a + j)) = (r1, r2) ∧ n = foldD ([x0, x1, x2, x3].take j)) ∧ wr = w.alloc (.cells #[.int .i64 x0, .int .i64 x1, .int .i64 x2, .int .i64 x3] 153)) (fun i _ => 4 - (intOf i).toNat)
  case atStart => exact ⟨0, 0, 0, 0, 0, 0, by omega, rfl, by omega, by omega, by omega, by omega, by omega, by omega, ⟨hr.out, rfl⟩, rfl⟩
  case round =>
    obtain ⟨j, n, x0, x1, x2, x3, hj, rfl, g0, g1, g2, g3, haj, hn, HR, rfl⟩ := hrel
    by_cases hjl : j < 4
    · by_cases hin : a + j < s.size
      · have hdr := drop_at hin
        have hcall := fun W' => quoteDigit_any s (a + j) W' hs hin
        have HC := Lib.hid hcall
        have hq1 : (a : Int) + (j : Int) < (s.size : Int) := by omega
        have hcast : ((a + j : Nat) : Int) = (a : Int) + (j : Int) := by omega
        by_cases hx : hexV s[a + j] < 0
        · have hx1 : hexV s[a + j] = -1 := by have := hexV_bd s[a + j]; omega
          have hdg := digR_no hx1
          have he : r1 = 0 ∧ r2 = 3 := by
            have := HR.out.1
            rw [hdr, show 4 - j = (3 - j) + 1 by omega, fourGo, if_pos hx] at this
            simp only [Prod.mk.injEq] at this
            exact ⟨this.1.symm, this.2.symm⟩
          obtain ⟨rfl, rfl⟩ := he
          rw [hdg, hcast] at HC
          clear hdr hx hx1 hdg hcall hcast HR
          go_wp2_with fail
          refine (HC.out _).mono ?_
          rintro e w2 ⟨rfl, rfl⟩
          go_wp2_with fail
          go_ret2
          exact ⟨rfl, bel_alloc (Below.refl _ _) _⟩
        · obtain ⟨d, hd, hd16⟩ := hexN hx
          have hdg := digR_yes hd (by omega)
          have hst := HR.out.1
          rw [hdr, show 4 - j = (3 - j) + 1 by omega, fourGo, if_neg hx, hd] at hst
          have HST := Lib.hid hst
          have HN := Lib.hid HR.out.2
          rw [hdg, hcast] at HC
          clear hdr hx hd hdg hcall hcast hst HR
          have hj4 : j = 0 ∨ j = 1 ∨ j = 2 ∨ j = 3 := by omega
          have hnd : n * 16 + d < 65536 ∨ j = 4 := by
            left
            have hb : foldD ([x0, x1, x2, x3].take j) < 16 ^ ([x0, x1, x2, x3].take j).length := foldD_bd _ (fun x hx => by
              have := List.mem_of_mem_take hx
              simp at this
              rcases this with rfl | rfl | rfl | rfl <;> assumption)
            rw [← HN.out, List.length_take] at hb
            have h2 : (16 : Nat) ^ min j ([x0, x1, x2, x3] : List Nat).length ≤ 16 ^ 3 := Nat.pow_le_pow_right (by decide) (by simp; omega)
            omega
          rcases hj4 with rfl | rfl | rfl | rfl
          · go_wp2_with fail
            refine (HC.out _).mono ?_
            rintro e w2 ⟨rfl, rfl⟩
            go_wp2_with fail
            refine ⟨⟨1, n * 16 + d, d, x1, x2, x3, by omega, rfl, hd16, g1, g2, g3, by omega, by omega, ⟨?_, ?_⟩, rfl⟩, by simp [intOf]⟩
            · have := HST.out
              rw [show (16 * (n : Int) + (d : Int)) = ((n * 16 + d : Nat) : Int) by omega] at this
              exact this
            · rw [HN.out]; rfl
          · go_wp2_with fail
            refine (HC.out _).mono ?_
            rintro e w2 ⟨rfl, rfl⟩
            go_wp2_with fail
            refine ⟨⟨2, n * 16 + d, x0, d, x2, x3, by omega, rfl, g0, hd16, g2, g3, by omega, by omega, ⟨?_, ?_⟩, rfl⟩, by simp [intOf]⟩
            · have := HST.out
              rw [show (16 * (n : Int) + (d : Int)) = ((n * 16 + d : Nat) : Int) by omega] at this
              exact this
            · rw [HN.out]; rfl
          · go_wp2_with fail
            refine (HC.out _).mono ?_
            rintro e w2 ⟨rfl, rfl⟩
            go_wp2_with fail
            refine ⟨⟨3, n * 16 + d, x0, x1, d, x3, by omega, rfl, g0, g1, hd16, g3, by omega, by omega, ⟨?_, ?_⟩, rfl⟩, by simp [intOf]⟩
            · have := HST.out
              rw [show (16 * (n : Int) + (d : Int)) = ((n * 16 + d : Nat) : Int) by omega] at this
              exact this
            · rw [HN.out]; rfl
          · go_wp2_with fail
            refine (HC.out _).mono ?_
            rintro e w2 ⟨rfl, rfl⟩
            go_wp2_with fail
            refine ⟨⟨4, n * 16 + d, x0, x1, x2, d, by omega, rfl, g0, g1, g2, hd16, by omega, by omega, ⟨?_, ?_⟩, rfl⟩, by simp [intOf]⟩
            · have := HST.out
              rw [show (16 * (n : Int) + (d : Int)) = ((n * 16 + d : Nat) : Int) by omega] at this
              exact this
            · rw [HN.out]; rfl
      · have he : r1 = 0 ∧ r2 = 4 := by
          have := HR.out.1
          rw [drop_none (by omega), show 4 - j = (3 - j) + 1 by omega, fourGo] at this
          simp only [Prod.mk.injEq] at this
          exact ⟨this.1.symm, this.2.symm⟩
        obtain ⟨rfl, rfl⟩ := he
        have hq1 : (s.size : Int) ≤ (a : Int) + (j : Int) := by omega
        clear HR
        go_wp2_with fail
        go_ret2
        exact ⟨rfl, bel_alloc (Below.refl _ _) _⟩
    · obtain rfl : j = 4 := by omega
      have he : r1 = (n : Int) ∧ r2 = 0 := by
        have := HR.out.1
        rw [show 4 - 4 = 0 from rfl, fourGo] at this
        simp only [Prod.mk.injEq] at this
        exact ⟨this.1.symm, this.2.symm⟩
      have HN := Lib.hid HR.out.2
      obtain ⟨rfl, rfl⟩ := he
      have hcall := fun W' hc => quoteNumber_any (w.heap.size + 1) 4 [x0, x1, x2, x3] W' rfl (by intro d hd; simp at hd; rcases hd with rfl | rfl | rfl | rfl <;> assumption) hc
      have HC := Lib.hid hcall
      clear hcall HR
      go_wp2_with fail
      refine (HC.out _ ?_).mono ?_
      · intro j d hj
        rw [cell_al_eq _ _ _ _ _ (by rw [size_al])]
        match j, hj with
        | 0, hj => simp at hj; subst hj; rfl
        | 1, hj => simp at hj; subst hj; rfl
        | 2, hj => simp at hj; subst hj; rfl
        | 3, hj => simp at hj; subst hj; rfl
      rintro e w2 ⟨rfl, rfl⟩
      go_wp2_with fail
      go_ret2
      refine ⟨ret_ii ?_ rfl, bel_alloc (bel_alloc (Below.refl _ _) _) _⟩
      rw [HN.out]; rfl
end Go.Proofs.YtkflnbmbkilicaaDoor
