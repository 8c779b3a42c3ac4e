/-
  num.formed, and the document's Form: whether a text is of the form of a number.
-/
import Derived.Test.YtkflnbmbkilicaaDoorNumBase
import Derived.Test.YtkflnbmbkilicaaDoorNumPlain
namespace Go.Proofs.YtkflnbmbkilicaaDoor
open Go.RowKit

/-- Are all of these bytes digits? -/
def digs (l : List UInt8) : Bool := l.all Nm.dg

theorem digs_step {l : List UInt8} {s : ByteArray} {k : Nat} (hl : s.data.toList = l) (h : k < s.size) (ha : digs (l.take k) = true) (h1 : 48 ≤ (s[k].toNat : Int)) (h2 : (s[k].toNat : Int) ≤ 57) : digs (l.take (k + 1)) = true := by
  subst hl
  rw [take_snoc s k h, digs, List.all_append]
  simp only [digs] at ha
  rw [ha]
  simp only [List.all_cons, List.all_nil, Bool.and_true, Bool.true_and]
  exact (Nm.dg_iff _).2 ⟨by omega, by omega⟩
theorem digs_stop {l : List UInt8} {s : ByteArray} {k : Nat} (hl : s.data.toList = l) (h : k < s.size) (h1 : (s[k].toNat : Int) < 48 ∨ 57 < (s[k].toNat : Int)) : digs l = false := by
  subst hl
  rw [digs, List.all_eq_false]
  refine ⟨s[k], mem_at s k h, fun hd => ?_⟩
  have := (Nm.dg_iff _).1 hd
  omega
theorem digs_all {l : List UInt8} {s : ByteArray} {k : Nat} (hl : s.data.toList = l) (h : ¬ k < s.size) (ha : digs (l.take k) = true) : digs l = true := by
  subst hl
  rwa [List.take_of_length_le (by rw [size_len]; omega)] at ha

theorem form_zero : Nm.form [48] = true := by decide
theorem form_nil : Nm.form [] = false := by decide
theorem form_pos {c : UInt8} {r : List UInt8} (h0 : ¬ c :: r = [48]) (h : c.toNat ≠ 45) : Nm.form (c :: r) = (decide (c.toNat ≠ 48) && digs (c :: r)) := by
  have hb : Nm.body (c :: r) = c :: r := Nm.body_pos (by simp [h])
  simp only [Nm.form, hb, h0, digs]
  simp
theorem form_neg {c : UInt8} {r : List UInt8} (h : c.toNat = 45) : Nm.form (c :: r) = (decide (r ≠ []) && decide (r.head?.map (·.toNat) ≠ some 48) && digs r) := by
  have hb : Nm.body (c :: r) = r := Nm.body_neg (by simp [h])
  have h0 : ¬ c :: r = [48] := by intro e; injection e with e1 e2; subst e1; simp at h
  simp only [Nm.form, hb, h0, digs]
  simp

set_option maxHeartbeats 400000 in
theorem formed_zero (s : ByteArray) (w : World) (hz : (s.toList == [48]) = true) :
    Calls Tryd.prog 59 #[.string s] w fun e w' => e = .returned (.bool true) ∧ w = w' := by
  go_enter Tryd.func59, Tryd.ntmps59
  go_wp2
  go_ret
  exact ⟨rfl, rfl⟩
set_option maxHeartbeats 400000 in
theorem formed_nil (s : ByteArray) (w : World) (_hz : (s.toList == [48]) = false) (hn : s.toList = []) :
    Calls Tryd.prog 59 #[.string s] w fun e w' => e = .returned (.bool false) ∧ w = w' := by
  go_enter Tryd.func59, Tryd.ntmps59
  go_wp2
  go_ret
  exact ⟨rfl, rfl⟩
set_option maxHeartbeats 400000 in
theorem formed_pos0 (s : ByteArray) (w : World) (hz : (s.toList == [48]) = false) (_hne : ¬ s.toList = []) (he : s.toList.isEmpty = false) (h0 : 0 < s.size)
    (hm : ((s[0].toNat : Int) == 45) = false) (h8 : ((s[0].toNat : Int) == 48) = true) :
    Calls Tryd.prog 59 #[.string s] w fun e w' => e = .returned (.bool false) ∧ w = w' := by
  go_enter Tryd.func59, Tryd.ntmps59
  go_wp2
  go_ret
  exact ⟨rfl, rfl⟩
set_option maxHeartbeats 400000 in
theorem formed_pos (s : ByteArray) (w : World) (hs : s.size ≤ maxLen) (hz : (s.toList == [48]) = false) (_hne : ¬ s.toList = []) (he : s.toList.isEmpty = false) (h0 : 0 < s.size)
    (hm : ((s[0].toNat : Int) == 45) = false) (h8 : ((s[0].toNat : Int) == 48) = false) :
    Calls Tryd.prog 59 #[.string s] w fun e w' => e = .returned (.bool (digs s.data.toList)) ∧ w = w' := by
  unfold maxLen at hs
  go_enter Tryd.func59, Tryd.ntmps59
  go_wp2
  go_loop [24] (fun i => ∃ k : Nat, k ≤ s.size ∧ i = .int .i64 k ∧ digs (s.data.toList.take k) = true) (fun i => s.size - (intOf i).toNat)
  case atStart => exact ⟨0, Nat.zero_le _, rfl, rfl⟩
  case round =>
    obtain ⟨k, hk, rfl, hall⟩ := hrel
    have HA := Lib.hid hall
    clear hall
    by_cases hlt : k < s.size
    · by_cases h1 : (s[k].toNat : Int) < 48
      · go_wp2
        go_ret
        exact ⟨ret_bool (digs_stop rfl hlt (Or.inl h1)).symm, rfl⟩
      · by_cases h2 : 57 < (s[k].toNat : Int)
        · go_wp2
          go_ret
          exact ⟨ret_bool (digs_stop rfl hlt (Or.inr h2)).symm, rfl⟩
        · go_wp2
          go_round
          case rel => exact ⟨k + 1, by omega, by go_num, digs_step rfl hlt HA.out (by omega) (by omega)⟩
          case measure => simp [intOf]; omega
    · go_wp2
      go_ret
      exact ⟨ret_bool (digs_all rfl hlt HA.out).symm, rfl⟩
set_option maxHeartbeats 400000 in
theorem formed_neg1 (s : ByteArray) (w : World) (hz : (s.toList == [48]) = false) (_hne : ¬ s.toList = []) (he : s.toList.isEmpty = false) (h0 : 0 < s.size)
    (hm : ((s[0].toNat : Int) == 45) = true) (h8 : (s.extract 1 s.size).toList = []) :
    Calls Tryd.prog 59 #[.string s] w fun e w' => e = .returned (.bool false) ∧ w = w' := by
  go_enter Tryd.func59, Tryd.ntmps59
  go_wp2
  go_ret
  exact ⟨rfl, rfl⟩
set_option maxHeartbeats 400000 in
theorem formed_neg0 (s : ByteArray) (w : World) (hz : (s.toList == [48]) = false) (_hne : ¬ s.toList = []) (he : s.toList.isEmpty = false) (h0 : 0 < s.size)
    (hm : ((s[0].toNat : Int) == 45) = true) (_hne2 : ¬ (s.extract 1 s.size).toList = []) (he2 : (s.extract 1 s.size).toList.isEmpty = false) (h1 : 1 < s.size) (hx : 0 < (s.extract 1 s.size).size) (h8 : (((s.extract 1 s.size)[0].toNat : Int) == 48) = true) :
    Calls Tryd.prog 59 #[.string s] w fun e w' => e = .returned (.bool false) ∧ w = w' := by
  go_enter Tryd.func59, Tryd.ntmps59
  go_wp2
  go_ret
  exact ⟨rfl, rfl⟩
set_option maxHeartbeats 400000 in
theorem formed_neg (s : ByteArray) (w : World) (hs : s.size ≤ maxLen) (hz : (s.toList == [48]) = false) (_hne : ¬ s.toList = []) (he : s.toList.isEmpty = false) (h0 : 0 < s.size)
    (hm : ((s[0].toNat : Int) == 45) = true) (_hne2 : ¬ (s.extract 1 s.size).toList = []) (he2 : (s.extract 1 s.size).toList.isEmpty = false) (h1 : 1 < s.size) (hx : 0 < (s.extract 1 s.size).size) (h8 : (((s.extract 1 s.size)[0].toNat : Int) == 48) = false) (r : Bool) (hr : Hid (digs (s.extract 1 s.size).data.toList = r)) :
    Calls Tryd.prog 59 #[.string s] w fun e w' => e = .returned (.bool r) ∧ w = w' := by
  unfold maxLen at hs
  have hxs : (s.extract 1 s.size).size = s.size - 1 := by rw [ByteArray.size_extract]; omega
  have HX := Lib.hid hxs
  clear hxs
  go_enter Tryd.func59, Tryd.ntmps59
  go_wp2
  go_loop [24] (fun i => ∃ k : Nat, k ≤ s.size - 1 ∧ i = .int .i64 k ∧ digs ((s.extract 1 s.size).data.toList.take k) = true) (fun i => s.size - 1 - (intOf i).toNat)
  case atStart => exact ⟨0, Nat.zero_le _, rfl, rfl⟩
  case round =>
    obtain ⟨k, hk, rfl, hall⟩ := hrel
    have HA := Lib.hid hall
    clear hall
    by_cases hlt : k < s.size - 1
    · have hltx : k < (s.extract 1 s.size).size := by rw [HX.out]; exact hlt
      by_cases h1 : ((s.extract 1 s.size)[k].toNat : Int) < 48
      · go_wp2
        go_ret
        exact ⟨ret_bool ((digs_stop rfl hltx (Or.inl h1)).symm.trans hr.out), rfl⟩
      · by_cases h2 : 57 < ((s.extract 1 s.size)[k].toNat : Int)
        · go_wp2
          go_ret
          exact ⟨ret_bool ((digs_stop rfl hltx (Or.inr h2)).symm.trans hr.out), rfl⟩
        · go_wp2
          go_round
          case rel => exact ⟨k + 1, by omega, by go_num, digs_step rfl hltx HA.out (by omega) (by omega)⟩
          case measure => simp [intOf]; omega
    · go_wp2
      go_ret
      exact ⟨ret_bool ((digs_all rfl (by rw [HX.out]; exact hlt) HA.out).symm.trans hr.out), rfl⟩
theorem formed_any (s : ByteArray) (w : World) (hs : s.size ≤ maxLen) :
    Calls Tryd.prog 59 #[.string s] w fun e w' => e = .returned (.bool (Nm.form s.data.toList)) ∧ w = w' := by
  by_cases hz : s.data.toList = [48]
  · rw [hz, form_zero]
    exact formed_zero s w (by rw [toList_data, hz]; rfl)
  · have hz' : (s.toList == [48]) = false := by rw [toList_data]; exact beq_eq_false_iff_ne.2 hz
    by_cases h0 : 0 < s.size
    · have hl := head_at s h0
      have hne : ¬ s.toList = [] := by rw [toList_data, hl]; simp
      have he : s.toList.isEmpty = false := by rw [toList_data, hl]; rfl
      by_cases hm : s[0].toNat = 45
      · have hm' : ((s[0].toNat : Int) == 45) = true := by rw [hm]; rfl
        have hx : (s.extract 1 s.size).data.toList = s.data.toList.tail := by rw [Lib.extract_to_end, List.drop_one]
        have hf : Nm.form s.data.toList = _ := (congrArg Nm.form hl).trans (form_neg hm)
        by_cases h1 : 1 < s.size
        · have hxs : (s.extract 1 s.size).size = s.size - 1 := by rw [ByteArray.size_extract]; omega
          have hx0 : 0 < (s.extract 1 s.size).size := by omega
          have hxl := head_at (s.extract 1 s.size) hx0
          have hne2 : ¬ (s.extract 1 s.size).toList = [] := by rw [toList_data, hxl]; simp
          have he2 : (s.extract 1 s.size).toList.isEmpty = false := by rw [toList_data, hxl]; rfl
          rw [← hx] at hf
          by_cases h8 : (s.extract 1 s.size)[0].toNat = 48
          · rw [hf, hxl]
            simp only [List.head?_cons, Option.map_some, h8]
            exact formed_neg0 s w hz' hne he h0 hm' hne2 he2 h1 hx0 (by rw [h8]; rfl)
          · have e : Nm.form s.data.toList = digs (s.extract 1 s.size).data.toList := by
              rw [hf]
              rw [show decide ((s.extract 1 s.size).data.toList ≠ []) = true by rw [hxl]; simp]
              rw [show decide ((s.extract 1 s.size).data.toList.head?.map (·.toNat) ≠ some 48) = true by rw [hxl]; simp [h8]]
              rfl
            rw [e]
            exact formed_neg s w hs hz' hne he h0 hm' hne2 he2 h1 hx0 (by simp; omega) _ rfl
        · have hnil : s.data.toList.tail = [] := by
            apply List.length_eq_zero_iff.1
            rw [List.length_tail, size_len]; omega
          rw [hf, hnil]
          exact formed_neg1 s w hz' hne he h0 hm' (by rw [toList_data, hx, hnil])
      · have hm' : ((s[0].toNat : Int) == 45) = false := by simp; omega
        have hf : Nm.form s.data.toList = _ := (congrArg Nm.form hl).trans (form_pos (by rw [← hl]; exact hz) hm)
        by_cases h8 : s[0].toNat = 48
        · rw [hf]
          simp only [h8]
          exact formed_pos0 s w hz' hne he h0 hm' (by rw [h8]; rfl)
        · rw [hf, ← hl, show decide (s[0].toNat ≠ 48) = true by simp [h8], Bool.true_and]
          exact formed_pos s w hs hz' hne he h0 hm' (by simp; omega)
    · have hl := empty_of s h0
      rw [hl, form_nil]
      exact formed_nil s w hz' (by rw [toList_data, hl])

set_option maxHeartbeats 400000 in
theorem Form_zero (s : ByteArray) (w : World) (hz : (s.toList == [48]) = true) :
    Calls Tryd.prog 44 #[.string s] w fun e w' => e = .returned (.bool true) ∧ w = w' := by
  go_enter Tryd.func44, Tryd.ntmps44
  go_wp2
  go_ret
  exact ⟨rfl, rfl⟩
set_option maxHeartbeats 400000 in
theorem Form_nil (s : ByteArray) (w : World) (_hz : (s.toList == [48]) = false) (hn : s.toList = []) :
    Calls Tryd.prog 44 #[.string s] w fun e w' => e = .returned (.bool false) ∧ w = w' := by
  go_enter Tryd.func44, Tryd.ntmps44
  go_wp2
  go_ret
  exact ⟨rfl, rfl⟩
set_option maxHeartbeats 400000 in
theorem Form_pos0 (s : ByteArray) (w : World) (hz : (s.toList == [48]) = false) (_hne : ¬ s.toList = []) (he : s.toList.isEmpty = false) (h0 : 0 < s.size)
    (hm : ((s[0].toNat : Int) == 45) = false) (h8 : ((s[0].toNat : Int) == 48) = true) :
    Calls Tryd.prog 44 #[.string s] w fun e w' => e = .returned (.bool false) ∧ w = w' := by
  go_enter Tryd.func44, Tryd.ntmps44
  go_wp2
  go_ret
  exact ⟨rfl, rfl⟩
set_option maxHeartbeats 400000 in
theorem Form_pos (s : ByteArray) (w : World) (hs : s.size ≤ maxLen) (hz : (s.toList == [48]) = false) (_hne : ¬ s.toList = []) (he : s.toList.isEmpty = false) (h0 : 0 < s.size)
    (hm : ((s[0].toNat : Int) == 45) = false) (h8 : ((s[0].toNat : Int) == 48) = false) :
    Calls Tryd.prog 44 #[.string s] w fun e w' => e = .returned (.bool (digs s.data.toList)) ∧ w = w' := by
  unfold maxLen at hs
  go_enter Tryd.func44, Tryd.ntmps44
  go_wp2
  go_loop [3] (fun i => ∃ k : Nat, k ≤ s.size ∧ i = .int .i64 k ∧ digs (s.data.toList.take k) = true) (fun i => s.size - (intOf i).toNat)
  case atStart => exact ⟨0, Nat.zero_le _, rfl, rfl⟩
  case round =>
    obtain ⟨k, hk, rfl, hall⟩ := hrel
    have HA := Lib.hid hall
    clear hall
    by_cases hlt : k < s.size
    · by_cases h1 : (s[k].toNat : Int) < 48
      · go_wp2
        go_ret
        exact ⟨ret_bool (digs_stop rfl hlt (Or.inl h1)).symm, rfl⟩
      · by_cases h2 : 57 < (s[k].toNat : Int)
        · go_wp2
          go_ret
          exact ⟨ret_bool (digs_stop rfl hlt (Or.inr h2)).symm, rfl⟩
        · go_wp2
          go_round
          case rel => exact ⟨k + 1, by omega, by go_num, digs_step rfl hlt HA.out (by omega) (by omega)⟩
          case measure => simp [intOf]; omega
    · go_wp2
      go_ret
      exact ⟨ret_bool (digs_all rfl hlt HA.out).symm, rfl⟩
set_option maxHeartbeats 400000 in
theorem Form_neg1 (s : ByteArray) (w : World) (hz : (s.toList == [48]) = false) (_hne : ¬ s.toList = []) (he : s.toList.isEmpty = false) (h0 : 0 < s.size)
    (hm : ((s[0].toNat : Int) == 45) = true) (h8 : (s.extract 1 s.size).toList = []) :
    Calls Tryd.prog 44 #[.string s] w fun e w' => e = .returned (.bool false) ∧ w = w' := by
  go_enter Tryd.func44, Tryd.ntmps44
  go_wp2
  go_ret
  exact ⟨rfl, rfl⟩
set_option maxHeartbeats 400000 in
theorem Form_neg0 (s : ByteArray) (w : World) (hz : (s.toList == [48]) = false) (_hne : ¬ s.toList = []) (he : s.toList.isEmpty = false) (h0 : 0 < s.size)
    (hm : ((s[0].toNat : Int) == 45) = true) (_hne2 : ¬ (s.extract 1 s.size).toList = []) (he2 : (s.extract 1 s.size).toList.isEmpty = false) (h1 : 1 < s.size) (hx : 0 < (s.extract 1 s.size).size) (h8 : (((s.extract 1 s.size)[0].toNat : Int) == 48) = true) :
    Calls Tryd.prog 44 #[.string s] w fun e w' => e = .returned (.bool false) ∧ w = w' := by
  go_enter Tryd.func44, Tryd.ntmps44
  go_wp2
  go_ret
  exact ⟨rfl, rfl⟩
set_option maxHeartbeats 400000 in
theorem Form_neg (s : ByteArray) (w : World) (hs : s.size ≤ maxLen) (hz : (s.toList == [48]) = false) (_hne : ¬ s.toList = []) (he : s.toList.isEmpty = false) (h0 : 0 < s.size)
    (hm : ((s[0].toNat : Int) == 45) = true) (_hne2 : ¬ (s.extract 1 s.size).toList = []) (he2 : (s.extract 1 s.size).toList.isEmpty = false) (h1 : 1 < s.size) (hx : 0 < (s.extract 1 s.size).size) (h8 : (((s.extract 1 s.size)[0].toNat : Int) == 48) = false) (r : Bool) (hr : Hid (digs (s.extract 1 s.size).data.toList = r)) :
    Calls Tryd.prog 44 #[.string s] w fun e w' => e = .returned (.bool r) ∧ w = w' := by
  unfold maxLen at hs
  have hxs : (s.extract 1 s.size).size = s.size - 1 := by rw [ByteArray.size_extract]; omega
  have HX := Lib.hid hxs
  clear hxs
  go_enter Tryd.func44, Tryd.ntmps44
  go_wp2
  go_loop [3] (fun i => ∃ k : Nat, k ≤ s.size - 1 ∧ i = .int .i64 k ∧ digs ((s.extract 1 s.size).data.toList.take k) = true) (fun i => s.size - 1 - (intOf i).toNat)
  case atStart => exact ⟨0, Nat.zero_le _, rfl, rfl⟩
  case round =>
    obtain ⟨k, hk, rfl, hall⟩ := hrel
    have HA := Lib.hid hall
    clear hall
    by_cases hlt : k < s.size - 1
    · have hltx : k < (s.extract 1 s.size).size := by rw [HX.out]; exact hlt
      by_cases h1 : ((s.extract 1 s.size)[k].toNat : Int) < 48
      · go_wp2
        go_ret
        exact ⟨ret_bool ((digs_stop rfl hltx (Or.inl h1)).symm.trans hr.out), rfl⟩
      · by_cases h2 : 57 < ((s.extract 1 s.size)[k].toNat : Int)
        · go_wp2
          go_ret
          exact ⟨ret_bool ((digs_stop rfl hltx (Or.inr h2)).symm.trans hr.out), rfl⟩
        · go_wp2
          go_round
          case rel => exact ⟨k + 1, by omega, by go_num, digs_step rfl hltx HA.out (by omega) (by omega)⟩
          case measure => simp [intOf]; omega
    · go_wp2
      go_ret
      exact ⟨ret_bool ((digs_all rfl (by rw [HX.out]; exact hlt) HA.out).symm.trans hr.out), rfl⟩
theorem Form_any (s : ByteArray) (w : World) (hs : s.size ≤ maxLen) :
    Calls Tryd.prog 44 #[.string s] w fun e w' => e = .returned (.bool (Nm.form s.data.toList)) ∧ w = w' := by
  by_cases hz : s.data.toList = [48]
  · rw [hz, form_zero]
    exact Form_zero s w (by rw [toList_data, hz]; rfl)
  · have hz' : (s.toList == [48]) = false := by rw [toList_data]; exact beq_eq_false_iff_ne.2 hz
    by_cases h0 : 0 < s.size
    · have hl := head_at s h0
      have hne : ¬ s.toList = [] := by rw [toList_data, hl]; simp
      have he : s.toList.isEmpty = false := by rw [toList_data, hl]; rfl
      by_cases hm : s[0].toNat = 45
      · have hm' : ((s[0].toNat : Int) == 45) = true := by rw [hm]; rfl
        have hx : (s.extract 1 s.size).data.toList = s.data.toList.tail := by rw [Lib.extract_to_end, List.drop_one]
        have hf : Nm.form s.data.toList = _ := (congrArg Nm.form hl).trans (form_neg hm)
        by_cases h1 : 1 < s.size
        · have hxs : (s.extract 1 s.size).size = s.size - 1 := by rw [ByteArray.size_extract]; omega
          have hx0 : 0 < (s.extract 1 s.size).size := by omega
          have hxl := head_at (s.extract 1 s.size) hx0
          have hne2 : ¬ (s.extract 1 s.size).toList = [] := by rw [toList_data, hxl]; simp
          have he2 : (s.extract 1 s.size).toList.isEmpty = false := by rw [toList_data, hxl]; rfl
          rw [← hx] at hf
          by_cases h8 : (s.extract 1 s.size)[0].toNat = 48
          · rw [hf, hxl]
            simp only [List.head?_cons, Option.map_some, h8]
            exact Form_neg0 s w hz' hne he h0 hm' hne2 he2 h1 hx0 (by rw [h8]; rfl)
          · have e : Nm.form s.data.toList = digs (s.extract 1 s.size).data.toList := by
              rw [hf]
              rw [show decide ((s.extract 1 s.size).data.toList ≠ []) = true by rw [hxl]; simp]
              rw [show decide ((s.extract 1 s.size).data.toList.head?.map (·.toNat) ≠ some 48) = true by rw [hxl]; simp [h8]]
              rfl
            rw [e]
            exact Form_neg s w hs hz' hne he h0 hm' hne2 he2 h1 hx0 (by simp; omega) _ rfl
        · have hnil : s.data.toList.tail = [] := by
            apply List.length_eq_zero_iff.1
            rw [List.length_tail, size_len]; omega
          rw [hf, hnil]
          exact Form_neg1 s w hz' hne he h0 hm' (by rw [toList_data, hx, hnil])
      · have hm' : ((s[0].toNat : Int) == 45) = false := by simp; omega
        have hf : Nm.form s.data.toList = _ := (congrArg Nm.form hl).trans (form_pos (by rw [← hl]; exact hz) hm)
        by_cases h8 : s[0].toNat = 48
        · rw [hf]
          simp only [h8]
          exact Form_pos0 s w hz' hne he h0 hm' (by rw [h8]; rfl)
        · rw [hf, ← hl, show decide (s[0].toNat ≠ 48) = true by simp [h8], Bool.true_and]
          exact Form_pos s w hs hz' hne he h0 hm' (by simp; omega)
    · have hl := empty_of s h0
      rw [hl, form_nil]
      exact Form_nil s w hz' (by rw [toList_data, hl])
end Go.Proofs.YtkflnbmbkilicaaDoor
