/-
  legateref01.Value and legateref05.number: the number of four hexadecimal digits, by the document's words.
-/
import Derived.Test.YtfdecbfcddkoiaaGreatDoorQuoteB
import Derived.BigQuiet
namespace Go.Proofs.YtfdecbfcddkoiaaGreatDoor
open Go.RowKit

/-- What legateref01.Value tells. -/
def valV (c : Int) : Int := if 48 ≤ c ∧ c ≤ 57 then c - 48 else if 97 ≤ c ∧ c ≤ 102 then c - 87 else -1
theorem ret1i {a a' : Int} (h : a = a') : Ending.returned (.int .i64 a) = .returned (.int .i64 a') := by rw [h]
set_option maxRecDepth 100000 in
theorem refValue_any (c : Int) (w : World) (h0 : 0 ≤ c) (h1 : c ≤ 255) (v : Int) (hv : Hid (valV c = v)) :
    Calls Tryz.prog 105 #[.int .u8 c] w fun e w' => e = .returned (.int .i64 v) ∧ w = w' := by
  have h := hv.out
  unfold valV at h
  clear hv
  by_cases a1 : c < 48
  · rw [if_neg (by omega), if_neg (by omega)] at h
    have d1 : decide (48 ≤ c) = false := by simp; omega
    have d2 : decide (97 ≤ c) = false := by simp; omega
    have HH := Lib.hid h
    clear h
    go_enter Tryz.func105, Tryz.ntmps105
    go_wp2_with fail
    go_ret
    exact ⟨ret1i HH.out, rfl⟩
  · have d1 : decide (48 ≤ c) = true := by simp; omega
    by_cases a2 : c ≤ 57
    · rw [if_pos (by omega)] at h
      have d2 : decide (c ≤ 57) = true := by simp; omega
      have HH := Lib.hid h
      clear h
      go_enter Tryz.func105, Tryz.ntmps105
      go_wp2_with fail
      go_ret
      exact ⟨ret1i HH.out, rfl⟩
    · have d2 : decide (c ≤ 57) = false := by simp; omega
      by_cases a3 : c < 97
      · rw [if_neg (by omega), if_neg (by omega)] at h
        have d3 : decide (97 ≤ c) = false := by simp; omega
        have HH := Lib.hid h
        clear h
        go_enter Tryz.func105, Tryz.ntmps105
        go_wp2_with fail
        go_ret
        exact ⟨ret1i HH.out, rfl⟩
      · have d3 : decide (97 ≤ c) = true := by simp; omega
        by_cases a4 : c ≤ 102
        · rw [if_neg (by omega), if_pos (by omega)] at h
          have d4 : decide (c ≤ 102) = true := by simp; omega
          have HH := Lib.hid h
          clear h
          go_enter Tryz.func105, Tryz.ntmps105
          go_wp2_with fail
          go_ret
          exact ⟨ret1i (by have := HH.out; omega), rfl⟩
        · rw [if_neg (by omega), if_neg (by omega)] at h
          have d4 : decide (c ≤ 102) = false := by simp; omega
          have HH := Lib.hid h
          clear h
          go_enter Tryz.func105, Tryz.ntmps105
          go_wp2_with fail
          go_ret
          exact ⟨ret1i HH.out, rfl⟩
/-- The digit as legateref05.number asks for it. -/
theorem hexV_low (c : UInt8) : valV (if 65 ≤ c.toNat ∧ c.toNat ≤ 70 then (c.toNat : Int) + 32 else (c.toNat : Int)) = hexV c := by
  unfold valV hexV
  by_cases h : 65 ≤ c.toNat ∧ c.toNat ≤ 70
  · rw [if_pos h, if_neg (by omega), if_pos (by omega), if_neg (by omega), if_neg (by omega), if_pos h]; omega
  · rw [if_neg h]
    by_cases h1 : 48 ≤ c.toNat ∧ c.toNat ≤ 57
    · rw [if_pos (by omega), if_pos h1]
    · rw [if_neg (by omega), if_neg h1]
      by_cases h2 : 97 ≤ c.toNat ∧ c.toNat ≤ 102
      · rw [if_pos (by omega), if_pos h2]
      · rw [if_neg (by omega), if_neg h2, if_neg h]
theorem fourGo_rest (k : Nat) (n : Int) (s : ByteArray) (a : Nat) (h : a < s.size) : fourGo (k + 1) n (s.data.toList.drop a) = if hexV s[a] < 0 then (0, 3) else fourGo k (16 * n + hexV s[a]) (s.data.toList.drop (a + 1)) := by
  rw [drop_at h, fourGo]
set_option maxRecDepth 100000 in
set_option maxHeartbeats 2000000 in
theorem refNumber_any (s : ByteArray) (a : Nat) (w : World) (hs : s.size ≤ 281474976710656) (ha : a ≤ s.size) (r1 r2 : Int) (hr : Hid (fourP (s.data.toList.drop a) = (r1, r2))) :
    Calls Tryz.prog 95 #[.string s, .int .i64 a] w fun e w' => e = .returned (.tuple #[.int .i64 r1, .int .i64 r2]) ∧ w = w' := by
  go_enter Tryz.func95, Tryz.ntmps95
  go_wp2_with fail
  go_loop [6, 7] (fun nv i => ∃ (k : Nat) (n : Int), k ≤ 4 ∧ i = .int .i64 k ∧ nv = .int .i64 n ∧ 0 ≤ n ∧ n < 65536 ∧ (k ≤ 3 → n < 4096) ∧ (k ≤ 2 → n < 256) ∧ (k ≤ 1 → n < 16) ∧ (k = 0 → n = 0) ∧ Hid (fourGo (4 - k) n (s.data.toList.drop (a + k)) = (r1, r2))) (fun _ i => 4 - (intOf i).toNat)
  case atStart => exact ⟨0, 0, by omega, rfl, rfl, by omega, by omega, by omega, by omega, by omega, by omega, hr⟩
  case round =>
    obtain ⟨k, n, hk, rfl, rfl, hn0, hn1, hn3, hn2, hn4, hn5, HF⟩ := hrel
    by_cases hk4 : k < 4
    · obtain ⟨f, hf⟩ : ∃ f, 4 - k = f + 1 := ⟨3 - k, by omega⟩
      by_cases hend : s.size ≤ a + k
      · have h := HF.out
        rw [hf, drop_none hend, fourGo] at h
        have HH := Lib.hid h
        clear h HF hf
        go_wp2_with fail
        go_ret2
        have h := HH.out
        simp only [Prod.mk.injEq] at h
        exact ⟨ret_ii h.1 h.2, rfl⟩
      · have hlt : a + k < s.size := by omega
        have h := HF.out
        rw [hf, fourGo_rest f n s (a + k) hlt] at h
        have hv := hexV_low s[a + k]
        have hb := hexV_bd s[a + k]
        obtain ⟨v, hvv⟩ : ∃ v, hexV s[a + k] = v := ⟨_, rfl⟩
        rw [hvv] at h hv hb
        have hc255 : s[a + k].toNat ≤ 255 := by have := s[a + k].toNat_lt; omega
        have hc0 : (0 : Int) ≤ (s[a + k].toNat : Int) := by omega
        clear hvv HF
        by_cases hup : 65 ≤ s[a + k].toNat ∧ s[a + k].toNat ≤ 70
        · rw [if_pos hup] at hv
          have d1 : decide ((65 : Int) ≤ (s[a + k].toNat : Int)) = true := by simp; omega
          have d2 : decide ((s[a + k].toNat : Int) ≤ 70) = true := by simp; omega
          have HV := Lib.hid (fun W => refValue_any ((s[a + k].toNat : Int) + 32) W (by omega) (by omega) v hv)
          by_cases hneg : v < 0
          · rw [if_pos hneg] at h
            have HH := Lib.hid h
            clear h hv
            go_wp2_with fail
            refine (HV.out _).mono ?_
            rintro e w3 ⟨rfl, rfl⟩
            go_wp2_with fail
            go_ret2
            have h := HH.out
            simp only [Prod.mk.injEq] at h
            exact ⟨ret_ii h.1 h.2, rfl⟩
          · rw [if_neg hneg] at h
            have HH := Lib.hid h
            clear h hv
            go_wp2_with fail
            refine (HV.out _).mono ?_
            rintro e w3 ⟨rfl, rfl⟩
            go_wp2_with fail
            refine ⟨⟨k + 1, 16 * n + v, by omega, by go_num, rfl, by omega, by omega, by omega, by omega, by omega, by omega, ?_⟩, by simp [intOf]; omega⟩
            rw [show 4 - (k + 1) = f by omega]
            exact HH
        · rw [if_neg hup] at hv
          have HV := Lib.hid (fun W => refValue_any ((s[a + k].toNat : Int)) W (by omega) (by omega) v hv)
          by_cases hlo : 65 ≤ s[a + k].toNat
          · have d1 : decide ((65 : Int) ≤ (s[a + k].toNat : Int)) = true := by simp; omega
            have d2 : decide ((s[a + k].toNat : Int) ≤ 70) = false := by simp; omega
            by_cases hneg : v < 0
            · rw [if_pos hneg] at h
              have HH := Lib.hid h
              clear h hv hup
              go_wp2_with fail
              refine (HV.out _).mono ?_
              rintro e w3 ⟨rfl, rfl⟩
              go_wp2_with fail
              go_ret2
              have h := HH.out
              simp only [Prod.mk.injEq] at h
              exact ⟨ret_ii h.1 h.2, rfl⟩
            · rw [if_neg hneg] at h
              have HH := Lib.hid h
              clear h hv hup
              go_wp2_with fail
              refine (HV.out _).mono ?_
              rintro e w3 ⟨rfl, rfl⟩
              go_wp2_with fail
              refine ⟨⟨k + 1, 16 * n + v, by omega, by go_num, rfl, by omega, by omega, by omega, by omega, by omega, by omega, ?_⟩, by simp [intOf]; omega⟩
              rw [show 4 - (k + 1) = f by omega]
              exact HH
          · have d1 : decide ((65 : Int) ≤ (s[a + k].toNat : Int)) = false := by simp; omega
            by_cases hneg : v < 0
            · rw [if_pos hneg] at h
              have HH := Lib.hid h
              clear h hv hup
              go_wp2_with fail
              refine (HV.out _).mono ?_
              rintro e w3 ⟨rfl, rfl⟩
              go_wp2_with fail
              go_ret2
              have h := HH.out
              simp only [Prod.mk.injEq] at h
              exact ⟨ret_ii h.1 h.2, rfl⟩
            · rw [if_neg hneg] at h
              have HH := Lib.hid h
              clear h hv hup
              go_wp2_with fail
              refine (HV.out _).mono ?_
              rintro e w3 ⟨rfl, rfl⟩
              go_wp2_with fail
              refine ⟨⟨k + 1, 16 * n + v, by omega, by go_num, rfl, by omega, by omega, by omega, by omega, by omega, by omega, ?_⟩, by simp [intOf]; omega⟩
              rw [show 4 - (k + 1) = f by omega]
              exact HH
    · obtain rfl : k = 4 := by omega
      have h := HF.out
      rw [Nat.sub_self, fourGo] at h
      have HH := Lib.hid h
      clear h HF
      go_wp2_with fail
      go_ret2
      have h := HH.out
      simp only [Prod.mk.injEq] at h
      exact ⟨ret_ii h.1 h.2, rfl⟩
end Go.Proofs.YtfdecbfcddkoiaaGreatDoor
