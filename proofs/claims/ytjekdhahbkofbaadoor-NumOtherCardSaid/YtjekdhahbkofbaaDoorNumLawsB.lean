/-
  The walks of the laws NumOther and NumOrder.
-/
import Derived.Test.YtjekdhahbkofbaaDoorNumRefRead
import Derived.OpenShut
namespace Go.Proofs.YtjekdhahbkofbaaDoor
open Go.RowKit

theorem dv_lt : ∀ (l : List UInt8) (a : Nat), l.all Nm.dg = true → Nm.dv a l < (a + 1) * 10 ^ l.length
  | [], a, _ => by simp [Nm.dv]
  | c :: r, a, h => by
    simp only [List.all_cons, Bool.and_eq_true] at h
    have hc := (Nm.dg_iff c).1 h.1
    have := dv_lt r (a * 10 + (c.toNat - 48)) h.2
    show Nm.dv (a * 10 + (c.toNat - 48)) r < (a + 1) * 10 ^ (r.length + 1)
    refine Nat.lt_of_lt_of_le this ?_
    rw [Nat.pow_succ, Nat.mul_comm (10 ^ r.length) 10, ← Nat.mul_assoc]
    exact Nat.mul_le_mul_right _ (by omega)
/-- A number that no int64 is has at least 19 bytes. -/
theorem val_out_long {t : List UInt8} (hf : Nm.form t = true) (h : ¬ (-9223372036854775808 ≤ Nm.val t ∧ Nm.val t ≤ 9223372036854775807)) : 19 ≤ t.length := by
  obtain ⟨_, h2, _⟩ := Nm.form_parts hf
  have hlt := dv_lt (Nm.body t) 0 h2
  have hbl : (Nm.body t).length ≤ t.length := by unfold Nm.body; split <;> simp
  by_cases hl : 19 ≤ t.length
  · exact hl
  · exfalso
    have hp : 10 ^ (Nm.body t).length ≤ 10 ^ 18 := Nat.pow_le_pow_right (by decide) (by omega)
    apply h
    by_cases hn : t.head?.map (·.toNat) = some 45
    · rw [Nm.body_neg hn] at hlt hp
      rw [Nm.val, if_pos hn]; omega
    · rw [Nm.body_pos hn] at hlt hp
      rw [Nm.val, if_neg hn]; omega
theorem run_whole {l : List UInt8} (hn : l.all Nm.isN = true) : Nm.run l 0 = l := by
  rw [Nm.run, List.drop_zero]
  rw [List.all_eq_true] at hn
  have := List.takeWhile_append_of_pos (p := Nm.isN) (l₁ := l) (l₂ := []) hn
  simpa using this
theorem readP_all {l : List UInt8} (hn : l.all Nm.isN = true) : readP l 0 = if Nm.form l = false then (0, 0, 3) else if -9223372036854775808 ≤ Nm.val l ∧ Nm.val l ≤ 9223372036854775807 then (Nm.val l, (l.length : Int), 0) else (0, 0, 9) := by
  have := readP_in (l := l) (a := 0) (Nat.zero_le _)
  rw [run_whole hn] at this
  simpa using this

set_option maxRecDepth 100000 in
set_option maxHeartbeats 1000000 in
theorem numOther_walk (s : ByteArray) (w : World) (w0 : s.size ≤ maxLen) (henv : NumEnv w) :
    Calls Tryd.prog 14 #[.string s] w fun e w' => e = .returned (.bool true) ∧ Below w.heap.size w w' := by
  unfold maxLen at w0
  by_cases hl : 3000 < s.size
  · go_enter Tryd.func14, Tryd.ntmps14
    go_wp2_with fail
    refine (awake6_any _ henv).mono ?_
    rintro e w3 ⟨rfl, hb3⟩
    go_wp2_with fail
    go_ret
    exact ⟨rfl, hb3⟩
  · have hd : decide (3000 < (s.size : Int)) = false := by simp; omega
    go_enter Tryd.func14, Tryd.ntmps14
    go_wp2_with fail
    refine (awake6_any _ henv).mono ?_
    rintro e w3 ⟨rfl, hb3⟩
    have henv3 := henv.below hb3
    clear henv
    go_wp2_with fail
    go_loop [3] (fun i => ∃ k : Nat, k ≤ s.size ∧ i = .int .i64 k ∧ Hid ((s.data.toList.take k).all Nm.isN = true)) (fun i => s.size - (intOf i).toNat)
    case atStart => exact ⟨0, Nat.zero_le _, rfl, by simp [Hid]⟩
    case round =>
      obtain ⟨k, hk, rfl, HA⟩ := hrel
      by_cases hlt : k < s.size
      · by_cases hN : Nm.isN s[k] = true
        · have HN := Lib.hid hN
          clear hN
          go_wp2_with fail
          refine (more_any s[k] _ true HN).mono ?_
          rintro e w' ⟨rfl, rfl⟩
          go_wp2_with fail
          refine ⟨⟨k + 1, by omega, by go_num, ?_⟩, ?_⟩
          · show (s.data.toList.take (k + 1)).all Nm.isN = true
            rw [take_snoc s k hlt, List.all_append, HA.out]; simp [HN.out]
          · simp [intOf]; omega
        · have HN : Hid (Nm.isN s[k] = false) := by simpa [Hid] using hN
          clear hN
          go_wp2_with fail
          refine (more_any s[k] _ false HN).mono ?_
          rintro e w' ⟨rfl, rfl⟩
          go_wp2_with fail
          go_ret
          exact ⟨rfl, hb3⟩
      · have hall : s.data.toList.all Nm.isN = true := by
          have := HA.out
          rwa [List.take_of_length_le (by rw [size_len]; omega)] at this
        have hR := readP_all hall
        rw [size_len] at hR
        have HR := Lib.hid hR
        clear hR hall HA
        go_wp2_with fail
        refine (Read_any s 0 _ (by omega) henv3).mono ?_
        rintro e w4 ⟨rfl, hb4⟩
        rw [HR.out]
        by_cases hf : Nm.form s.data.toList = false
        · rw [if_pos hf]
          go_wp2_with fail
          refine (Form_any _ _ (by unfold maxLen; omega)).mono ?_
          rintro e w' ⟨rfl, rfl⟩
          rw [hf]
          go_wp2_with fail
          go_ret
          exact ⟨rfl, below_more hb3 hb4⟩
        · have hft : Nm.form s.data.toList = true := by simpa using hf
          rw [if_neg hf]
          by_cases hv : -9223372036854775808 ≤ Nm.val s.data.toList ∧ Nm.val s.data.toList ≤ 9223372036854775807
          · rw [if_pos hv]
            obtain ⟨v0, v1⟩ := hv
            have hit : (⟨(Lib.itoa (Nm.val s.data.toList)).toArray⟩ : ByteArray) = s := by rw [Nm.itoa_val hft]
            generalize Nm.val s.data.toList = v at *
            have HI := Lib.hid hit
            clear hit hf
            go_wp2_with fail
            refine (Form_any _ _ (by unfold maxLen; omega)).mono ?_
            rintro e w' ⟨rfl, rfl⟩
            rw [hft]
            go_wp2_with fail
            refine (Show_any v v0 v1 _ (henv3.below hb4).toTabEnv).mono ?_
            rintro e w5 ⟨rfl, hb5⟩
            rw [HI.out]
            go_wp2_with fail
            go_ret
            exact ⟨ret_bool (by simp), below_more (below_more hb3 hb4) hb5⟩
          · rw [if_neg hv]
            have h19 : 19 ≤ s.size := by
              have := val_out_long hft hv
              rwa [size_len] at this
            clear hv hf
            go_wp2_with fail
            refine (Form_any _ _ (by unfold maxLen; omega)).mono ?_
            rintro e w' ⟨rfl, rfl⟩
            rw [hft]
            go_wp2_with fail
            go_ret
            exact ⟨rfl, below_more hb3 hb4⟩
end Go.Proofs.YtjekdhahbkofbaaDoor
