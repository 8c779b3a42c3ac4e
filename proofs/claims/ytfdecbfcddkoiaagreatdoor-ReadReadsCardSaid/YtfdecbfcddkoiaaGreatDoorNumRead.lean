/-
  num.Read and num.Show: what they answer, at every input.
-/
import Derived.Test.YtfdecbfcddkoiaaGreatDoorNumA
import Derived.Test.YtfdecbfcddkoiaaGreatDoorShelf
namespace Go.Proofs.YtfdecbfcddkoiaaGreatDoor
open Go.RowKit

namespace Nm
theorem run_step {s : ByteArray} {l : List UInt8} (hl : s.data.toList = l) {a k : Nat} (h : k < s.size) (ha : a ≤ k) (hall : ((l.drop a).take (k - a)).all isN = true) (hc : isN s[k] = true) : ((l.drop a).take (k + 1 - a)).all isN = true := by
  subst hl
  have e : (s.data.toList.drop a).take (k + 1 - a) = (s.data.toList.drop a).take (k - a) ++ [s[k]] := by
    rw [show k + 1 - a = (k - a) + 1 by omega, List.take_add_one, List.getElem?_drop, show a + (k - a) = k by omega, Lib.data_getElem? s k h]; rfl
  rw [e, List.all_append, hall]
  simp [hc]
theorem run_stop {s : ByteArray} {l : List UInt8} (hl : s.data.toList = l) {a k : Nat} (ha : a ≤ k) (hall : ((l.drop a).take (k - a)).all isN = true) (hstop : ∀ h : k < s.size, isN s[k] = false) : run l a = (l.drop a).take (k - a) := by
  subst hl
  have e : s.data.toList.drop a = (s.data.toList.drop a).take (k - a) ++ s.data.toList.drop k := by
    rw [show s.data.toList.drop k = (s.data.toList.drop a).drop (k - a) by rw [List.drop_drop]; congr 1; omega, List.take_append_drop]
  have e2 : (s.data.toList.drop k).takeWhile isN = [] := by
    by_cases h : k < s.size
    · rw [List.drop_eq_getElem_cons (by rw [size_len]; exact h), List.takeWhile_cons]
      have : s.data.toList[k]'(by rw [size_len]; exact h) = s[k] := rfl
      rw [this, hstop h]; rfl
    · rw [List.drop_eq_nil_of_le (by rw [size_len]; omega)]; rfl
  unfold run
  rw [List.all_eq_true] at hall
  generalize (s.data.toList.drop a).take (k - a) = X at *
  rw [e, List.takeWhile_append_of_pos hall, e2, List.append_nil]
end Nm


theorem not_isN {c : UInt8} (h : Nm.isN c = false) : ((c.toNat : Int) == 48) = false ∧ ((c.toNat : Int) == 49) = false ∧ ((c.toNat : Int) == 50) = false ∧ ((c.toNat : Int) == 51) = false ∧ ((c.toNat : Int) == 52) = false ∧ ((c.toNat : Int) == 53) = false ∧ ((c.toNat : Int) == 54) = false ∧ ((c.toNat : Int) == 55) = false ∧ ((c.toNat : Int) == 56) = false ∧ ((c.toNat : Int) == 57) = false ∧ ((c.toNat : Int) == 45) = false ∧ ((c.toNat : Int) == 43) = false ∧ ((c.toNat : Int) == 46) = false ∧ ((c.toNat : Int) == 101) = false ∧ ((c.toNat : Int) == 69) = false := by
  simp only [Nm.isN, Nm.dg, Bool.or_eq_false_iff, Bool.and_eq_false_iff, beq_eq_false_iff_ne, decide_eq_false_iff_not, ne_eq] at h ⊢
  omega
theorem isN_none {c : UInt8} (h48 : ((c.toNat : Int) == 48) = false) (h49 : ((c.toNat : Int) == 49) = false) (h50 : ((c.toNat : Int) == 50) = false) (h51 : ((c.toNat : Int) == 51) = false) (h52 : ((c.toNat : Int) == 52) = false) (h53 : ((c.toNat : Int) == 53) = false) (h54 : ((c.toNat : Int) == 54) = false) (h55 : ((c.toNat : Int) == 55) = false) (h56 : ((c.toNat : Int) == 56) = false) (h57 : ((c.toNat : Int) == 57) = false) (h45 : ((c.toNat : Int) == 45) = false) (h43 : ((c.toNat : Int) == 43) = false) (h46 : ((c.toNat : Int) == 46) = false) (h101 : ((c.toNat : Int) == 101) = false) (h69 : ((c.toNat : Int) == 69) = false) : Nm.isN c = false := by
  simp only [Nm.isN, Nm.dg, Bool.or_eq_false_iff, Bool.and_eq_false_iff, beq_eq_false_iff_ne, decide_eq_false_iff_not, ne_eq] at *
  omega


/-- What num.Read answers. -/
def readP (l : List UInt8) (at_ : Int) : Int × Int × Int :=
  if at_ < 0 ∨ (l.length : Int) < at_ then (0, 0, 1)
  else if Nm.form (Nm.run l at_.toNat) = false then (0, 0, 3)
  else if -9223372036854775808 ≤ Nm.val (Nm.run l at_.toNat) ∧ Nm.val (Nm.run l at_.toNat) ≤ 9223372036854775807 then (Nm.val (Nm.run l at_.toNat), at_ + (Nm.run l at_.toNat).length, 0)
  else (0, 0, 9)
theorem readP_in {l : List UInt8} {a : Nat} (h : a ≤ l.length) : readP l a = if Nm.form (Nm.run l a) = false then (0, 0, 3) else if -9223372036854775808 ≤ Nm.val (Nm.run l a) ∧ Nm.val (Nm.run l a) ≤ 9223372036854775807 then (Nm.val (Nm.run l a), (a : Int) + (Nm.run l a).length, 0) else (0, 0, 9) := by
  rw [readP, if_neg (by omega), Int.toNat_natCast]

theorem below_bytes {w : World} {r : World} (h : r = w ∨ ∃ t, r = Lib.bytesWorld w 5 t) : Below w.heap.size w r := by
  rcases h with rfl | ⟨t, rfl⟩
  · exact Below.refl _ _
  · exact Lib.bytesWorld_below _ _ _

theorem ret3 {a a' b b' c c' : Int} (h1 : a = a') (h2 : b = b') (h3 : c = c') : Ending.returned (.tuple #[.int .i64 a, .int .i64 b, .int .i64 c]) = .returned (.tuple #[.int .i64 a', .int .i64 b', .int .i64 c']) := by rw [h1, h2, h3]
set_option maxRecDepth 100000 in
set_option maxHeartbeats 1000000 in
theorem Read_in (s : ByteArray) (a : Nat) (w : World) (hs : s.size ≤ 281474976710656) (ha : a ≤ s.size) (henv : NumEnv w) (r1 r2 r3 : Int) (hr : Hid (readP s.data.toList a = (r1, r2, r3))) :
    Calls Tryz.prog 69 #[.string s, .int .i64 a] w fun e w' => e = .returned (.tuple #[.int .i64 r1, .int .i64 r2, .int .i64 r3]) ∧ Below w.heap.size w w' := by
  go_enter Tryz.func69, Tryz.ntmps69
  go_wp2
  go_step3
  go_wp2
  go_step3
  go_wp2
  go_loop [7] (fun i => ∃ k : Nat, k ≤ s.size ∧ a ≤ k ∧ i = .int .i64 k ∧ Hid (((s.data.toList.drop a).take (k - a)).all Nm.isN = true)) (fun i => s.size - (intOf i).toNat)
  case atStart => exact ⟨a, ha, Nat.le_refl _, rfl, by simp [Hid]⟩
  case round =>
    obtain ⟨k, hk, hak, rfl, HA⟩ := hrel
    by_cases hlt : k < s.size
    · by_cases hN : Nm.isN s[k] = true
      · have HN := Lib.hid hN
        clear hN
        go_wp2_with fail
        all_goals first
          | (refine ⟨⟨k + 1, by omega, by omega, by go_num, Nm.run_step rfl hlt hak HA.out HN.out⟩, ?_⟩; simp [intOf]; omega)
          | (exfalso; have hno := isN_none (c := s[k]) (by assumption) (by assumption) (by assumption) (by assumption) (by assumption) (by assumption) (by assumption) (by assumption) (by assumption) (by assumption) (by assumption) (by assumption) (by assumption) (by assumption) (by assumption); rw [HN.out] at hno; cases hno)
      · have HS : Hid (Nm.run s.data.toList a = (s.data.toList.drop a).take (k - a)) := Nm.run_stop rfl hak HA.out (fun _ => by simpa using hN)
        obtain ⟨h1, h2, h3, h4, h5, h6, h7, h8, h9, h10, h11, h12, h13, h14, h15⟩ := not_isN (by simpa using hN)
        go_wp2_with fail
        clear h1 h2 h3 h4 h5 h6 h7 h8 h9 h10 h11 h12 h13 h14 h15 hN
        refine (formed_any _ _ ?_).mono ?_
        · rw [ByteArray.size_extract]; unfold maxLen; omega
        rintro e w' ⟨rfl, rfl⟩
        have hx : (s.extract a k).data.toList = Nm.run s.data.toList a := by rw [Lib.extract_data, HS.out]
        have hxl : (Nm.run s.data.toList a).length = k - a := by rw [HS.out, List.length_take, List.length_drop, size_len]; omega
        rw [hx]
        have HX := Lib.hid hx
        have HL := Lib.hid hxl
        clear hx hxl
        have hl : a ≤ s.data.toList.length := by rw [size_len]; exact ha
        have hR := Lib.hid (readP_in hl)
        clear hl
        by_cases hf : Nm.form (Nm.run s.data.toList a) = true
        · have HP := Lib.hid (Nm.parse_form hf)
          have hff : ¬ Nm.form (Nm.run s.data.toList a) = false := by simp [hf]
          go_wp2_with fail
          by_cases hv : -9223372036854775808 ≤ Nm.val (Nm.run s.data.toList a) ∧ Nm.val (Nm.run s.data.toList a) ≤ 9223372036854775807
          · refine (Tryz.strconv_ParseInt_10_at64_ok _ ?_ (Nm.val (Nm.run s.data.toList a)) ?_ _).mono ?_
            · rw [ByteArray.size_extract]; omega
            · rw [HX.out, HP.out, if_pos hv]
            rintro e w' ⟨rfl, hb⟩
            have hb' := below_bytes hb
            clear hb
            have e := hr.out.symm.trans hR.out
            rw [if_neg hff, if_pos hv, HL.out] at e
            have HE := Lib.hid e
            clear e hv
            go_wp2_with fail
            rw [Exit.noGoto_ret]
            go_ret3
            have e := HE.out
            simp only [Prod.mk.injEq] at e
            obtain ⟨rfl, rfl, rfl⟩ := e
            refine ⟨ret3 rfl (by omega) rfl, hb'⟩
          · obtain ⟨tp, p, hp⟩ := henv.range
            refine (Tryz.strconv_ParseInt_10_at64_range_var _ ?_ ?_ tp p _ hp).mono ?_
            · rw [ByteArray.size_extract]; omega
            · rw [HX.out, HP.out, if_neg hv]
            rintro e w' ⟨N, rfl, _, _, hb'⟩
            have e := hr.out.symm.trans hR.out
            rw [if_neg hff, if_neg hv] at e
            have HE := Lib.hid e
            clear e hv
            go_wp2_with fail
            rw [Exit.noGoto_ret]
            go_ret3
            have e := HE.out
            simp only [Prod.mk.injEq] at e
            obtain ⟨rfl, rfl, rfl⟩ := e
            exact ⟨rfl, hb'⟩
        · have hff : Nm.form (Nm.run s.data.toList a) = false := by simpa using hf
          have e := hr.out.symm.trans hR.out
          rw [if_pos hff] at e
          have HE := Lib.hid e
          clear e
          go_wp2_with fail
          rw [Exit.noGoto_ret]
          go_ret3
          have e := HE.out
          simp only [Prod.mk.injEq] at e
          obtain ⟨rfl, rfl, rfl⟩ := e
          exact ⟨rfl, Below.refl _ _⟩
    · have HS : Hid (Nm.run s.data.toList a = (s.data.toList.drop a).take (k - a)) := Nm.run_stop rfl hak HA.out (fun h => absurd h hlt)
      go_wp2_with fail
      refine (formed_any _ _ ?_).mono ?_
      · rw [ByteArray.size_extract]; unfold maxLen; omega
      rintro e w' ⟨rfl, rfl⟩
      have hx : (s.extract a k).data.toList = Nm.run s.data.toList a := by rw [Lib.extract_data, HS.out]
      have hxl : (Nm.run s.data.toList a).length = k - a := by rw [HS.out, List.length_take, List.length_drop, size_len]; omega
      rw [hx]
      have HX := Lib.hid hx
      have HL := Lib.hid hxl
      clear hx hxl
      have hl : a ≤ s.data.toList.length := by rw [size_len]; exact ha
      have hR := Lib.hid (readP_in hl)
      clear hl
      by_cases hf : Nm.form (Nm.run s.data.toList a) = true
      · have HP := Lib.hid (Nm.parse_form hf)
        have hff : ¬ Nm.form (Nm.run s.data.toList a) = false := by simp [hf]
        go_wp2_with fail
        by_cases hv : -9223372036854775808 ≤ Nm.val (Nm.run s.data.toList a) ∧ Nm.val (Nm.run s.data.toList a) ≤ 9223372036854775807
        · refine (Tryz.strconv_ParseInt_10_at64_ok _ ?_ (Nm.val (Nm.run s.data.toList a)) ?_ _).mono ?_
          · rw [ByteArray.size_extract]; omega
          · rw [HX.out, HP.out, if_pos hv]
          rintro e w' ⟨rfl, hb⟩
          have hb' := below_bytes hb
          clear hb
          have e := hr.out.symm.trans hR.out
          rw [if_neg hff, if_pos hv, HL.out] at e
          have HE := Lib.hid e
          clear e hv
          go_wp2_with fail
          rw [Exit.noGoto_ret]
          go_ret3
          have e := HE.out
          simp only [Prod.mk.injEq] at e
          obtain ⟨rfl, rfl, rfl⟩ := e
          refine ⟨ret3 rfl (by omega) rfl, hb'⟩
        · obtain ⟨tp, p, hp⟩ := henv.range
          refine (Tryz.strconv_ParseInt_10_at64_range_var _ ?_ ?_ tp p _ hp).mono ?_
          · rw [ByteArray.size_extract]; omega
          · rw [HX.out, HP.out, if_neg hv]
          rintro e w' ⟨N, rfl, _, _, hb'⟩
          have e := hr.out.symm.trans hR.out
          rw [if_neg hff, if_neg hv] at e
          have HE := Lib.hid e
          clear e hv
          go_wp2_with fail
          rw [Exit.noGoto_ret]
          go_ret3
          have e := HE.out
          simp only [Prod.mk.injEq] at e
          obtain ⟨rfl, rfl, rfl⟩ := e
          exact ⟨rfl, hb'⟩
      · have hff : Nm.form (Nm.run s.data.toList a) = false := by simpa using hf
        have e := hr.out.symm.trans hR.out
        rw [if_pos hff] at e
        have HE := Lib.hid e
        clear e
        go_wp2_with fail
        rw [Exit.noGoto_ret]
        go_ret3
        have e := HE.out
        simp only [Prod.mk.injEq] at e
        obtain ⟨rfl, rfl, rfl⟩ := e
        exact ⟨rfl, Below.refl _ _⟩

set_option maxHeartbeats 400000 in
theorem Read_out (s : ByteArray) (at_ : Int) (w : World) (h : at_ < 0 ∨ (s.size : Int) < at_) :
    Calls Tryz.prog 69 #[.string s, .int .i64 at_] w fun e w' => e = .returned (.tuple #[.int .i64 0, .int .i64 0, .int .i64 1]) ∧ w = w' := by
  by_cases h0 : at_ < 0
  · clear h
    go_enter Tryz.func69, Tryz.ntmps69
    go_wp2
    go_step3
    go_wp2
    rw [Exit.noGoto_ret]
    go_ret3
    exact ⟨rfl, rfl⟩
  · have h1 : (s.size : Int) < at_ := by omega
    clear h
    go_enter Tryz.func69, Tryz.ntmps69
    go_wp2
    go_step3
    go_wp2
    rw [Exit.noGoto_ret]
    go_ret3
    exact ⟨rfl, rfl⟩

/-- num.Read: at any place of any text. -/
theorem Read_any (s : ByteArray) (at_ : Int) (w : World) (hs : s.size ≤ 281474976710656) (henv : NumEnv w) :
    Calls Tryz.prog 69 #[.string s, .int .i64 at_] w fun e w' => e = .returned (.tuple #[.int .i64 (readP s.data.toList at_).1, .int .i64 (readP s.data.toList at_).2.1, .int .i64 (readP s.data.toList at_).2.2]) ∧ Below w.heap.size w w' := by
  by_cases h : at_ < 0 ∨ (s.size : Int) < at_
  · have e : readP s.data.toList at_ = (0, 0, 1) := by rw [readP, size_len, if_pos h]
    rw [e]
    exact (Read_out s at_ w h).mono fun _ _ ⟨he, hw⟩ => ⟨he, hw ▸ Below.refl _ _⟩
  · obtain ⟨a, rfl⟩ := Int.eq_ofNat_of_zero_le (show 0 ≤ at_ by omega)
    exact Read_in s a w hs (by omega) henv _ _ _ rfl

end Go.Proofs.YtfdecbfcddkoiaaGreatDoor
