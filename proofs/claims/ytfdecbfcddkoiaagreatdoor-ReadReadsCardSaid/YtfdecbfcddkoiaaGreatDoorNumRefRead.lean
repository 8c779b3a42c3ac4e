/-
  The document's Read: it answers as num.Read does.
-/
import Derived.Test.YtfdecbfcddkoiaaGreatDoorNumRefShow
namespace Go.Proofs.YtfdecbfcddkoiaaGreatDoor
open Go.RowKit

set_option maxRecDepth 100000 in
set_option maxHeartbeats 1000000 in
theorem of_any (c : UInt8) (w : World) (r : Bool) (hr : Hid (Nm.isN c = r)) :
    Calls Tryz.prog 65 #[.int .u8 (c.toNat : Int)] w fun e w' => e = .returned (.bool r) ∧ w = w' := by
  go_enter Tryz.func65, Tryz.ntmps65
  go_wp2
  all_goals
    go_ret
    refine ⟨ret_bool ?_, rfl⟩
    rw [← hr.out, Bool.eq_iff_iff]
    simp [Nm.isN, Nm.dg]
    try omega
theorem dv_big : ∀ (l : List UInt8) (a n : Nat), l.length = n → a * 10 ^ n ≤ Nm.dv a l
  | [], a, n, h => by subst h; simp [Nm.dv]
  | c :: r, a, n, h => by
    subst h
    have := dv_big r (a * 10 + (c.toNat - 48)) r.length rfl
    show a * 10 ^ (r.length + 1) ≤ Nm.dv (a * 10 + (c.toNat - 48)) r
    refine Nat.le_trans ?_ this
    rw [Nat.pow_succ, Nat.mul_comm (10 ^ r.length) 10, ← Nat.mul_assoc]
    exact Nat.mul_le_mul_right _ (by omega)
/-- More than 20 bytes are no int64. -/
theorem val_long {t : List UInt8} (hf : Nm.form t = true) (hl : 20 < t.length) : ¬ (-9223372036854775808 ≤ Nm.val t ∧ Nm.val t ≤ 9223372036854775807) := by
  obtain ⟨h1, h2, h3⟩ := Nm.form_parts hf
  have h4 : (Nm.body t).head?.map (·.toNat) ≠ some 48 := by
    rcases h3 with h | h
    · subst h; simp at hl
    · exact h
  have hb : 20 ≤ (Nm.body t).length := by
    by_cases hn : t.head?.map (·.toNat) = some 45
    · rw [Nm.body_neg hn, List.length_tail]; omega
    · rw [Nm.body_pos hn]; omega
  have hv : 9223372036854775808 < Nm.dv 0 (Nm.body t) := by
    match hbt : Nm.body t with
    | [] => exact absurd hbt h1
    | c :: r =>
      rw [hbt] at h2 h4 hb
      simp only [List.all_cons, Bool.and_eq_true] at h2
      have hc := (Nm.dg_iff c).1 h2.1
      have hc8 : c.toNat ≠ 48 := fun h => h4 (by simp [h])
      have hp := dv_big r (c.toNat - 48) r.length rfl
      have e : Nm.dv 0 (c :: r) = Nm.dv (c.toNat - 48) r := by show Nm.dv (0 * 10 + (c.toNat - 48)) r = _; rw [Nat.zero_mul, Nat.zero_add]
      rw [e]
      have h19 : 10 ^ 19 ≤ 10 ^ r.length := Nat.pow_le_pow_right (by decide) (by simp at hb; omega)
      have : 1 * 10 ^ 19 ≤ (c.toNat - 48) * 10 ^ r.length := Nat.mul_le_mul (by omega) h19
      omega
  by_cases hn : t.head?.map (·.toNat) = some 45
  · rw [Nm.body_neg hn] at hv
    rw [Nm.val, if_pos hn]; omega
  · rw [Nm.body_pos hn] at hv
    rw [Nm.val, if_neg hn]; omega

theorem wrap_mul_add (m V d : Int) (h : m = wrap64 V) : wrap64 (wrap64 (10 * m) + d) = wrap64 (10 * V + d) := by
  subst h; unfold wrap64; omega
theorem wrap_mul_sub (m V d : Int) (h : m = wrap64 V) : wrap64 (wrap64 (10 * m) - d) = wrap64 (10 * V - d) := by
  subst h; unfold wrap64; omega
theorem zero_wrap : (0 : Int) = wrap64 0 := by unfold wrap64; omega
theorem head_take {t : List UInt8} {j : Nat} (h : 0 < j) : (t.take j).head? = t.head? := by
  cases t with
  | nil => simp
  | cons c r => obtain ⟨j, rfl⟩ : ∃ i, j = i + 1 := ⟨j - 1, by omega⟩; rfl
theorem take_one_more {t : List UInt8} {j : Nat} {c : UInt8} (hc : t[j]? = some c) : t.take (j + 1) = t.take j ++ [c] := by
  rw [List.take_add_one, hc]; rfl
/-- One byte further in a text of the form. -/
theorem val_step {t : List UInt8} (hf : Nm.form t = true) {j : Nat} {c : UInt8} (hc : t[j]? = some c) :
    (c.toNat = 45 → Nm.val (t.take (j + 1)) = Nm.val (t.take j)) ∧
    (c.toNat ≠ 45 → 48 ≤ c.toNat ∧ c.toNat ≤ 57 ∧ Nm.val (t.take (j + 1)) = if t.head?.map (·.toNat) = some 45 then 10 * Nm.val (t.take j) - ((c.toNat : Int) - 48) else 10 * Nm.val (t.take j) + ((c.toNat : Int) - 48)) := by
  obtain ⟨h1, h2, h3⟩ := Nm.form_parts hf
  have hd : ∀ x ∈ Nm.body t, 48 ≤ x.toNat ∧ x.toNat ≤ 57 := fun x hx => (Nm.dg_iff x).1 (List.all_eq_true.1 h2 x hx)
  by_cases hn : t.head?.map (·.toNat) = some 45
  · rw [Nm.body_neg hn] at hd
    match t, hn with
    | b :: r, hn =>
      match j with
      | 0 =>
        simp at hc hn
        subst hc
        refine ⟨fun _ => ?_, fun h => absurd hn h⟩
        simp [Nm.val, hn, Nm.dv]
      | j + 1 =>
        simp at hc
        have hm := hd c (List.mem_of_getElem? hc)
        refine ⟨fun h => by omega, fun _ => ⟨hm.1, hm.2, ?_⟩⟩
        simp at hn
        have e1 : Nm.val ((b :: r).take (j + 1 + 1)) = -(Nm.dv 0 (r.take (j + 1)) : Int) := by simp [Nm.val, hn]
        have e2 : Nm.val ((b :: r).take (j + 1)) = -(Nm.dv 0 (r.take j) : Int) := by simp [Nm.val, hn]
        rw [e1, e2, if_pos (by simp [hn]), take_one_more hc, Nm.dv_snoc]
        omega
  · rw [Nm.body_pos hn] at hd
    have hm := hd c (List.mem_of_getElem? hc)
    refine ⟨fun h => by omega, fun _ => ⟨hm.1, hm.2, ?_⟩⟩
    have e1 : ∀ i, Nm.val (t.take i) = (Nm.dv 0 (t.take i) : Int) := fun i => by
      by_cases hi : 0 < i
      · rw [Nm.val, if_neg (by rw [head_take hi]; exact hn)]
      · obtain rfl : i = 0 := by omega
        rfl
    rw [if_neg hn, e1, e1, take_one_more hc, Nm.dv_snoc]
    omega
theorem getElem_of (s : ByteArray) {l : List UInt8} (hl : s.data.toList = l) (j : Nat) (h : j < s.size) : l[j]? = some s[j] := by
  subst hl; exact Lib.data_getElem? s j h
theorem wrap_out {V : Int} (h : wrap64 V = V) : -9223372036854775808 ≤ V ∧ V ≤ 9223372036854775807 := by unfold wrap64 at h; omega
theorem wrap_bd (V : Int) : -9223372036854775808 ≤ wrap64 V ∧ wrap64 V ≤ 9223372036854775807 := by unfold wrap64; omega

set_option maxRecDepth 100000 in
set_option maxHeartbeats 1000000 in
theorem refRead_in (s : ByteArray) (a : Nat) (w : World) (hs : s.size ≤ 281474976710656) (ha : a ≤ s.size) (r1 r2 r3 : Int) (hr : Hid (readP s.data.toList a = (r1, r2, r3))) :
    Calls Tryz.prog 45 #[.string s, .int .i64 a] w fun e w' => e = .returned (.tuple #[.int .i64 r1, .int .i64 r2, .int .i64 r3]) ∧ Below w.heap.size w w' := by
  have hd1 : decide ((a : Int) < 0) = false := by simp
  have hd2 : decide (s.size < a) = false := by simp; omega
  go_enter Tryz.func45, Tryz.ntmps45
  go_wp2
  go_loop [7] (fun i => ∃ k : Nat, k ≤ s.size ∧ a ≤ k ∧ i = .int .i64 k ∧ Hid (((s.data.toList.drop a).take (k - a)).all Nm.isN = true)) (fun i => s.size - (intOf i).toNat)
  case atStart => exact ⟨a, ha, Nat.le_refl _, rfl, by simp [Hid]⟩
  case round =>
    obtain ⟨k, hk, hak, rfl, HA⟩ := hrel
    by_cases hlt : k < s.size
    · by_cases hN : Nm.isN s[k] = true
      · have HN := Lib.hid hN
        clear hN
        go_wp2_with fail
        refine (of_any s[k] _ true HN).mono ?_
        rintro e w' ⟨rfl, rfl⟩
        go_wp2_with fail
        refine ⟨⟨k + 1, by omega, by omega, by go_num, Nm.run_step rfl hlt hak HA.out HN.out⟩, ?_⟩
        simp [intOf]; omega
      · have HS : Hid (Nm.run s.data.toList a = (s.data.toList.drop a).take (k - a)) := Nm.run_stop rfl hak HA.out (fun _ => by simpa using hN)
        go_wp2_with fail
        refine (of_any s[k] _ false (show Nm.isN s[k] = false by simpa using hN)).mono ?_
        rintro e w' ⟨rfl, rfl⟩
        go_wp2_with fail
        refine (Form_any _ _ ?_).mono ?_
        · rw [ByteArray.size_extract]; unfold maxLen; omega
        rintro e w' ⟨rfl, rfl⟩
        have hx : (s.extract a k).data.toList = Nm.run s.data.toList a := by rw [Lib.extract_data, HS.out]
        have hxl : (Nm.run s.data.toList a).length = k - a := by rw [HS.out, List.length_take, List.length_drop, size_len]; omega
        rw [hx]
        have HX := Lib.hid hx
        have HL := Lib.hid hxl
        clear hx hxl
        have hl : a ≤ s.data.toList.length := by rw [size_len]; exact ha
        have hR := Lib.hid (hr.out.symm.trans (readP_in hl))
        clear hl hr HS HA
        by_cases hf : Nm.form (Nm.run s.data.toList a) = true
        · have hff : ¬ Nm.form (Nm.run s.data.toList a) = false := by simp [hf]
          by_cases h20 : k - a ≤ 20
          · have hpos : 0 < k - a := by
              rw [← HL.out]
              exact List.length_pos_iff.2 (by intro h; rw [h] at hf; exact absurd hf (by decide))
            have hts : (s.extract a k).size = k - a := by rw [ByteArray.size_extract]; omega
            have h0t : 0 < (s.extract a k).size := by omega
            have HT := Lib.hid hts
            clear hts
            obtain ⟨b, hb⟩ : ∃ b : Bool, (((s.extract a k)[0].toNat : Int) == 45) = b := ⟨_, rfl⟩
            have HB : Hid ((Nm.run s.data.toList a).head?.map (·.toNat) = some 45 ↔ b = true) := by
              show _ ↔ _
              rw [← hb, ← HX.out, head_at _ h0t]; simp; omega
            go_wp2_with fail
            go_loop [9, 10] (fun n i => ∃ (j : Nat) (m : Int), j ≤ k - a ∧ i = .int .i64 j ∧ n = .int .i64 m ∧ Hid (m = wrap64 (Nm.val ((Nm.run s.data.toList a).take j)))) (fun _ i => k - a - (intOf i).toNat)
            case atStart => exact ⟨0, 0, Nat.zero_le _, rfl, rfl, zero_wrap⟩
            case round =>
              obtain ⟨j, m, hj, rfl, rfl, HM⟩ := hrel
              by_cases hjl : j < k - a
              · have hjt : j < (s.extract a k).size := by rw [HT.out]; exact hjl
                obtain ⟨v1, v2⟩ := val_step hf (getElem_of _ HX.out j hjt)
                by_cases h45 : (s.extract a k)[j].toNat = 45
                · have hb45 : (((s.extract a k)[j].toNat : Int) == 45) = true := by rw [h45]; rfl
                  have HV := Lib.hid (v1 h45)
                  clear v1 v2 h45
                  go_wp2_with fail
                  refine ⟨⟨j + 1, m, by omega, by go_num, rfl, by rw [HV.out]; exact HM⟩, ?_⟩
                  simp [intOf]; omega
                · have hb45 : (((s.extract a k)[j].toNat : Int) == 45) = false := beq_eq_false_iff_ne.2 (by omega)
                  obtain ⟨d1, d2, hv⟩ := v2 h45
                  have d1' : 48 ≤ ((s.extract a k)[j].toNat : Int) := by omega
                  have d2' : ((s.extract a k)[j].toNat : Int) ≤ 57 := by omega
                  have HV := Lib.hid hv
                  clear v1 v2 h45 hv d1 d2
                  cases b with
                  | true =>
                    go_wp2_with fail
                    refine ⟨⟨j + 1, _, by omega, by go_num, rfl, ?_⟩, ?_⟩
                    · rw [HV.out, if_pos (HB.out.2 rfl)]; exact wrap_mul_sub _ _ _ HM.out
                    · simp [intOf]; omega
                  | false =>
                    go_wp2_with fail
                    refine ⟨⟨j + 1, _, by omega, by go_num, rfl, ?_⟩, ?_⟩
                    · rw [HV.out, if_neg (by rw [HB.out]; decide)]; exact wrap_mul_add _ _ _ HM.out
                    · simp [intOf]; omega
              · have hjk : j = (Nm.run s.data.toList a).length := by rw [HL.out]; omega
                have hm : m = wrap64 (Nm.val (Nm.run s.data.toList a)) := by rw [HM.out, hjk, List.take_length]
                have HM2 := Lib.hid hm
                have HJ := Lib.hid hjk
                clear hm hjk HM
                have hb1 := wrap_bd (Nm.val (Nm.run s.data.toList a))
                rw [← HM2.out] at hb1
                obtain ⟨hb1, hb2⟩ := hb1
                go_wp2_with fail
                refine (refShow_any m hb1 hb2 _ _ rfl).mono ?_
                rintro e w1 ⟨rfl, hB1⟩
                by_cases hv : -9223372036854775808 ≤ Nm.val (Nm.run s.data.toList a) ∧ Nm.val (Nm.run s.data.toList a) ≤ 9223372036854775807
                · have e := hR.out
                  rw [if_neg hff, if_pos hv, HL.out] at e
                  have hw : m = Nm.val (Nm.run s.data.toList a) := HM2.out.trans (IntWalk.wrap64_in _ hv)
                  have hsame : (⟨(Lib.itoa m).toArray⟩ : ByteArray) = s.extract a k := by
                    rw [hw, Nm.itoa_val hf, ← HX.out]
                  rw [hsame]
                  have HE := Lib.hid e
                  have HW := Lib.hid hw
                  clear e hv hw hsame
                  go_wp2_with fail
                  go_ret3
                  have e := HE.out
                  simp only [Prod.mk.injEq] at e
                  obtain ⟨rfl, rfl, rfl⟩ := e
                  refine ⟨ret3 HW.out (by omega) rfl, hB1⟩
                · have e := hR.out
                  rw [if_neg hff, if_neg hv] at e
                  have hne : (Lib.itoa m == (s.extract a k).toList) = false := by
                    rw [toList_data, HX.out, beq_eq_false_iff_ne]
                    intro h
                    apply hv
                    apply wrap_out
                    rw [← HM2.out]
                    rw [← Nm.itoa_val hf] at h
                    exact Nm.itoa_inj h
                  have HE := Lib.hid e
                  clear e hv
                  go_wp2_with fail
                  go_ret3
                  have e := HE.out
                  simp only [Prod.mk.injEq] at e
                  obtain ⟨rfl, rfl, rfl⟩ := e
                  exact ⟨rfl, hB1⟩
          · have e := hR.out
            rw [if_neg hff, if_neg (val_long hf (by rw [HL.out]; omega))] at e
            have HE := Lib.hid e
            clear e
            go_wp2_with fail
            go_ret3
            have e := HE.out
            simp only [Prod.mk.injEq] at e
            obtain ⟨rfl, rfl, rfl⟩ := e
            exact ⟨rfl, Below.refl _ _⟩
        · have hff : Nm.form (Nm.run s.data.toList a) = false := by simpa using hf
          have e := hR.out
          rw [if_pos hff] at e
          have HE := Lib.hid e
          clear e
          go_wp2_with fail
          go_ret3
          have e := HE.out
          simp only [Prod.mk.injEq] at e
          obtain ⟨rfl, rfl, rfl⟩ := e
          exact ⟨rfl, Below.refl _ _⟩
    · have HS : Hid (Nm.run s.data.toList a = (s.data.toList.drop a).take (k - a)) := Nm.run_stop rfl hak HA.out (fun h => absurd h hlt)
      go_wp2_with fail
      refine (Form_any _ _ ?_).mono ?_
      · rw [ByteArray.size_extract]; unfold maxLen; omega
      rintro e w' ⟨rfl, rfl⟩
      have hx : (s.extract a k).data.toList = Nm.run s.data.toList a := by rw [Lib.extract_data, HS.out]
      have hxl : (Nm.run s.data.toList a).length = k - a := by rw [HS.out, List.length_take, List.length_drop, size_len]; omega
      rw [hx]
      have HX := Lib.hid hx
      have HL := Lib.hid hxl
      clear hx hxl
      have hl : a ≤ s.data.toList.length := by rw [size_len]; exact ha
      have hR := Lib.hid (hr.out.symm.trans (readP_in hl))
      clear hl hr HS HA
      by_cases hf : Nm.form (Nm.run s.data.toList a) = true
      · have hff : ¬ Nm.form (Nm.run s.data.toList a) = false := by simp [hf]
        by_cases h20 : k - a ≤ 20
        · have hpos : 0 < k - a := by
            rw [← HL.out]
            exact List.length_pos_iff.2 (by intro h; rw [h] at hf; exact absurd hf (by decide))
          have hts : (s.extract a k).size = k - a := by rw [ByteArray.size_extract]; omega
          have h0t : 0 < (s.extract a k).size := by omega
          have HT := Lib.hid hts
          clear hts
          obtain ⟨b, hb⟩ : ∃ b : Bool, (((s.extract a k)[0].toNat : Int) == 45) = b := ⟨_, rfl⟩
          have HB : Hid ((Nm.run s.data.toList a).head?.map (·.toNat) = some 45 ↔ b = true) := by
            show _ ↔ _
            rw [← hb, ← HX.out, head_at _ h0t]; simp; omega
          go_wp2_with fail
          go_loop [9, 10] (fun n i => ∃ (j : Nat) (m : Int), j ≤ k - a ∧ i = .int .i64 j ∧ n = .int .i64 m ∧ Hid (m = wrap64 (Nm.val ((Nm.run s.data.toList a).take j)))) (fun _ i => k - a - (intOf i).toNat)
          case atStart => exact ⟨0, 0, Nat.zero_le _, rfl, rfl, zero_wrap⟩
          case round =>
            obtain ⟨j, m, hj, rfl, rfl, HM⟩ := hrel
            by_cases hjl : j < k - a
            · have hjt : j < (s.extract a k).size := by rw [HT.out]; exact hjl
              obtain ⟨v1, v2⟩ := val_step hf (getElem_of _ HX.out j hjt)
              by_cases h45 : (s.extract a k)[j].toNat = 45
              · have hb45 : (((s.extract a k)[j].toNat : Int) == 45) = true := by rw [h45]; rfl
                have HV := Lib.hid (v1 h45)
                clear v1 v2 h45
                go_wp2_with fail
                refine ⟨⟨j + 1, m, by omega, by go_num, rfl, by rw [HV.out]; exact HM⟩, ?_⟩
                simp [intOf]; omega
              · have hb45 : (((s.extract a k)[j].toNat : Int) == 45) = false := beq_eq_false_iff_ne.2 (by omega)
                obtain ⟨d1, d2, hv⟩ := v2 h45
                have d1' : 48 ≤ ((s.extract a k)[j].toNat : Int) := by omega
                have d2' : ((s.extract a k)[j].toNat : Int) ≤ 57 := by omega
                have HV := Lib.hid hv
                clear v1 v2 h45 hv d1 d2
                cases b with
                | true =>
                  go_wp2_with fail
                  refine ⟨⟨j + 1, _, by omega, by go_num, rfl, ?_⟩, ?_⟩
                  · rw [HV.out, if_pos (HB.out.2 rfl)]; exact wrap_mul_sub _ _ _ HM.out
                  · simp [intOf]; omega
                | false =>
                  go_wp2_with fail
                  refine ⟨⟨j + 1, _, by omega, by go_num, rfl, ?_⟩, ?_⟩
                  · rw [HV.out, if_neg (by rw [HB.out]; decide)]; exact wrap_mul_add _ _ _ HM.out
                  · simp [intOf]; omega
            · have hjk : j = (Nm.run s.data.toList a).length := by rw [HL.out]; omega
              have hm : m = wrap64 (Nm.val (Nm.run s.data.toList a)) := by rw [HM.out, hjk, List.take_length]
              have HM2 := Lib.hid hm
              have HJ := Lib.hid hjk
              clear hm hjk HM
              have hb1 := wrap_bd (Nm.val (Nm.run s.data.toList a))
              rw [← HM2.out] at hb1
              obtain ⟨hb1, hb2⟩ := hb1
              go_wp2_with fail
              refine (refShow_any m hb1 hb2 _ _ rfl).mono ?_
              rintro e w1 ⟨rfl, hB1⟩
              by_cases hv : -9223372036854775808 ≤ Nm.val (Nm.run s.data.toList a) ∧ Nm.val (Nm.run s.data.toList a) ≤ 9223372036854775807
              · have e := hR.out
                rw [if_neg hff, if_pos hv, HL.out] at e
                have hw : m = Nm.val (Nm.run s.data.toList a) := HM2.out.trans (IntWalk.wrap64_in _ hv)
                have hsame : (⟨(Lib.itoa m).toArray⟩ : ByteArray) = s.extract a k := by
                  rw [hw, Nm.itoa_val hf, ← HX.out]
                rw [hsame]
                have HE := Lib.hid e
                have HW := Lib.hid hw
                clear e hv hw hsame
                go_wp2_with fail
                go_ret3
                have e := HE.out
                simp only [Prod.mk.injEq] at e
                obtain ⟨rfl, rfl, rfl⟩ := e
                refine ⟨ret3 HW.out (by omega) rfl, hB1⟩
              · have e := hR.out
                rw [if_neg hff, if_neg hv] at e
                have hne : (Lib.itoa m == (s.extract a k).toList) = false := by
                  rw [toList_data, HX.out, beq_eq_false_iff_ne]
                  intro h
                  apply hv
                  apply wrap_out
                  rw [← HM2.out]
                  rw [← Nm.itoa_val hf] at h
                  exact Nm.itoa_inj h
                have HE := Lib.hid e
                clear e hv
                go_wp2_with fail
                go_ret3
                have e := HE.out
                simp only [Prod.mk.injEq] at e
                obtain ⟨rfl, rfl, rfl⟩ := e
                exact ⟨rfl, hB1⟩
        · have e := hR.out
          rw [if_neg hff, if_neg (val_long hf (by rw [HL.out]; omega))] at e
          have HE := Lib.hid e
          clear e
          go_wp2_with fail
          go_ret3
          have e := HE.out
          simp only [Prod.mk.injEq] at e
          obtain ⟨rfl, rfl, rfl⟩ := e
          exact ⟨rfl, Below.refl _ _⟩
      · have hff : Nm.form (Nm.run s.data.toList a) = false := by simpa using hf
        have e := hR.out
        rw [if_pos hff] at e
        have HE := Lib.hid e
        clear e
        go_wp2_with fail
        go_ret3
        have e := HE.out
        simp only [Prod.mk.injEq] at e
        obtain ⟨rfl, rfl, rfl⟩ := e
        exact ⟨rfl, Below.refl _ _⟩

set_option maxHeartbeats 400000 in
theorem refRead_out (s : ByteArray) (at_ : Int) (w : World) (h : at_ < 0 ∨ (s.size : Int) < at_) :
    Calls Tryz.prog 45 #[.string s, .int .i64 at_] w fun e w' => e = .returned (.tuple #[.int .i64 0, .int .i64 0, .int .i64 1]) ∧ w = w' := by
  by_cases h0 : at_ < 0
  · clear h
    go_enter Tryz.func45, Tryz.ntmps45
    go_wp2
    go_ret3
    exact ⟨rfl, rfl⟩
  · have h1 : (s.size : Int) < at_ := by omega
    clear h
    go_enter Tryz.func45, Tryz.ntmps45
    go_wp2
    go_ret3
    exact ⟨rfl, rfl⟩

/-- The document's Read: at any place of any text. -/
theorem refRead_any (s : ByteArray) (at_ : Int) (w : World) (hs : s.size ≤ 281474976710656) :
    Calls Tryz.prog 45 #[.string s, .int .i64 at_] w fun e w' => e = .returned (.tuple #[.int .i64 (readP s.data.toList at_).1, .int .i64 (readP s.data.toList at_).2.1, .int .i64 (readP s.data.toList at_).2.2]) ∧ Below w.heap.size w w' := by
  by_cases h : at_ < 0 ∨ (s.size : Int) < at_
  · have e : readP s.data.toList at_ = (0, 0, 1) := by rw [readP, size_len, if_pos h]
    rw [e]
    exact (refRead_out s at_ w h).mono fun _ _ ⟨he, hw⟩ => ⟨he, hw ▸ Below.refl _ _⟩
  · obtain ⟨a, rfl⟩ := Int.eq_ofNat_of_zero_le (show 0 ≤ at_ by omega)
    exact refRead_in s a w hs (by omega) _ _ _ rfl
end Go.Proofs.YtfdecbfcddkoiaaGreatDoor
