/-
  lex.word: the words true and false.
-/
import Derived.Test.YtkflnbmbkilicaaDoorLexRead
namespace Go.Proofs.YtkflnbmbkilicaaDoor
open Go.RowKit

theorem low_yes {c : UInt8} (h : isLow c = true) : (97 : Int) ≤ (c.toNat : Int) ∧ (c.toNat : Int) ≤ 122 := by
  simp [isLow] at h
  omega
theorem low_no {c : UInt8} (h : isLow c = false) : ¬ ((97 : Int) ≤ (c.toNat : Int)) ∨ ((97 : Int) ≤ (c.toNat : Int) ∧ ¬ (c.toNat : Int) ≤ 122) := by
  simp [isLow] at h
  omega
theorem get_at {s : ByteArray} {q : Nat} (h : q < s.size) : s.data.toList[q]? = some s[q] := Lib.data_getElem? s q h
theorem take_at {s : ByteArray} {a q : Nat} (ha : a ≤ q) (h : q < s.size) : (s.data.toList.drop a).take (q + 1 - a) = (s.data.toList.drop a).take (q - a) ++ [s[q]] := by
  rw [show q + 1 - a = q - a + 1 by omega, List.take_add_one, List.getElem?_drop, show a + (q - a) = q by omega, get_at h]
  rfl
theorem word_step {s : ByteArray} {a q : Nat} (ha : a ≤ q) (h : q < s.size) (hl : isLow s[q] = true) (H : (s.data.toList.drop a).takeWhile isLow = (s.data.toList.drop a).take (q - a) ++ (s.data.toList.drop q).takeWhile isLow) :
    (s.data.toList.drop a).takeWhile isLow = (s.data.toList.drop a).take (q + 1 - a) ++ (s.data.toList.drop (q + 1)).takeWhile isLow := by
  rw [H, drop_at h, List.takeWhile_cons, if_pos hl, take_at ha h, List.append_assoc]
  rfl
theorem ext_list (s : ByteArray) (a q : Nat) : (s.extract a q).toList = (s.data.toList.drop a).take (q - a) := by
  rw [toList_data, Lib.extract_data]
theorem word_end {s : ByteArray} {a q : Nat} (ha : a ≤ q) (hq : q ≤ s.size) (hstop : ∀ h : q < s.size, isLow s[q] = false) (H : (s.data.toList.drop a).takeWhile isLow = (s.data.toList.drop a).take (q - a) ++ (s.data.toList.drop q).takeWhile isLow) :
    (s.extract a q).toList = (s.data.toList.drop a).takeWhile isLow ∧ q = a + ((s.data.toList.drop a).takeWhile isLow).length := by
  have h0 : (s.data.toList.drop q).takeWhile isLow = [] := by
    by_cases h : q < s.size
    · rw [drop_at h, List.takeWhile_cons, if_neg (by simp [hstop h])]
    · rw [drop_none (by omega)]; rfl
  rw [h0, List.append_nil] at H
  refine ⟨by rw [ext_list, H], ?_⟩
  rw [H, List.length_take, List.length_drop, size_len]
  omega
set_option maxRecDepth 100000 in
set_option maxHeartbeats 4000000 in
theorem word_any (s : ByteArray) (a : Nat) (w : World) (hs : s.size ≤ 281474976710656) (ha : a ≤ s.size) (k x z n : Int) (t : ByteArray) (er : Int) (hr : Hid (resV (tokR a (wordP (s.data.toList.drop a))) = (k, x, z, n, t, er))) :
    Calls Tryd.prog 39 #[.string s, .int .i64 a] w fun e w' => e = .returned (.tuple #[.agg #[.int .u8 k, .int .i64 x, .int .i64 z, .int .i64 n, .string t], .int .i64 er]) ∧ Below w.heap.size w w' := by
  go_enter Tryd.func39, Tryd.ntmps39
  go_wp2_with fail
  go_loop [6] (fun p => ∃ q : Nat, a ≤ q ∧ q ≤ s.size ∧ p = .int .i64 q ∧ Hid ((s.data.toList.drop a).takeWhile isLow = (s.data.toList.drop a).take (q - a) ++ (s.data.toList.drop q).takeWhile isLow)) (fun p => s.size - (intOf p).toNat)
  case atStart => exact ⟨a, Nat.le_refl _, ha, rfl, by show _ = _; simp⟩
  case round =>
    obtain ⟨q, haq, hq, rfl, HQ⟩ := hrel
    by_cases hlt : q < s.size
    · by_cases hb : isLow s[q] = true
      · obtain ⟨b1, b2⟩ := low_yes hb
        have HST := Lib.hid (word_step haq hlt hb HQ.out)
        clear hb HQ
        go_wp2_with fail
        refine ⟨⟨q + 1, by omega, by omega, by go_num, HST⟩, by simp [intOf]; omega⟩
      · have hb' : isLow s[q] = false := by simpa using hb
        have hno := low_no hb'
        have HB := Lib.hid hb'
        clear hb hb'
        rcases hno with h1 | ⟨h1, h2⟩
        · have hW := word_end haq hq (fun hh => HB.out) HQ.out
          by_cases w1 : (s.data.toList.drop a).takeWhile isLow = [116, 114, 117, 101]
          · have e1 : ((s.extract a q).toList == [116, 114, 117, 101]) = true := by rw [hW.1, w1]; rfl
            have h := hr.out
            unfold wordP at h
            rw [if_pos w1] at h
            obtain ⟨rfl, rfl, rfl, rfl, rfl, rfl⟩ := resV_ok h
            have hqa : q = a + 4 := by have := hW.2; rw [w1] at this; simpa using this
            have HQA := Lib.hid hqa
            clear w1 hW h hr HQ hqa
            go_wp2_with fail
            refine bodyPost_ret (v := .tuple #[.agg #[.int .u8 7, .int .i64 a, .int .i64 q, .int .i64 0, .string ⟨#[]⟩], .int .i64 0]) (by simp [results, Tryd.results39, go_sem]) rfl ⟨?_, bel_alloc (Below.refl _ _) _⟩
            rw [HQA.out]; rfl
          · have e1 : ((s.extract a q).toList == [116, 114, 117, 101]) = false := by rw [hW.1]; exact beq_eq_false_iff_ne.2 w1
            by_cases w2 : (s.data.toList.drop a).takeWhile isLow = [102, 97, 108, 115, 101]
            · have e2 : ((s.extract a q).toList == [102, 97, 108, 115, 101]) = true := by rw [hW.1, w2]; rfl
              have h := hr.out
              unfold wordP at h
              rw [if_neg w1, if_pos w2] at h
              obtain ⟨rfl, rfl, rfl, rfl, rfl, rfl⟩ := resV_ok h
              have hqa : q = a + 5 := by have := hW.2; rw [w2] at this; simpa using this
              have HQA := Lib.hid hqa
              clear w1 w2 hW h hr HQ hqa
              go_wp2_with fail
              refine bodyPost_ret (v := .tuple #[.agg #[.int .u8 8, .int .i64 a, .int .i64 q, .int .i64 0, .string ⟨#[]⟩], .int .i64 0]) (by simp [results, Tryd.results39, go_sem]) rfl ⟨?_, bel_alloc (Below.refl _ _) _⟩
              rw [HQA.out]; rfl
            · have e2 : ((s.extract a q).toList == [102, 97, 108, 115, 101]) = false := by rw [hW.1]; exact beq_eq_false_iff_ne.2 w2
              have h := hr.out
              unfold wordP at h
              rw [if_neg w1, if_neg w2] at h
              obtain ⟨rfl, rfl, rfl, rfl, rfl, rfl⟩ := resV_bad (by decide) h
              clear w1 w2 hW h hr HQ
              go_wp2_with fail
              exact bodyPost_ret (v := .tuple #[.agg #[.int .u8 0, .int .i64 0, .int .i64 0, .int .i64 0, .string ⟨#[]⟩], .int .i64 3]) (by simp [results, Tryd.results39, go_sem]) rfl ⟨rfl, bel_alloc (Below.refl _ _) _⟩
        · have hW := word_end haq hq (fun hh => HB.out) HQ.out
          by_cases w1 : (s.data.toList.drop a).takeWhile isLow = [116, 114, 117, 101]
          · have e1 : ((s.extract a q).toList == [116, 114, 117, 101]) = true := by rw [hW.1, w1]; rfl
            have h := hr.out
            unfold wordP at h
            rw [if_pos w1] at h
            obtain ⟨rfl, rfl, rfl, rfl, rfl, rfl⟩ := resV_ok h
            have hqa : q = a + 4 := by have := hW.2; rw [w1] at this; simpa using this
            have HQA := Lib.hid hqa
            clear w1 hW h hr HQ hqa
            go_wp2_with fail
            refine bodyPost_ret (v := .tuple #[.agg #[.int .u8 7, .int .i64 a, .int .i64 q, .int .i64 0, .string ⟨#[]⟩], .int .i64 0]) (by simp [results, Tryd.results39, go_sem]) rfl ⟨?_, bel_alloc (Below.refl _ _) _⟩
            rw [HQA.out]; rfl
          · have e1 : ((s.extract a q).toList == [116, 114, 117, 101]) = false := by rw [hW.1]; exact beq_eq_false_iff_ne.2 w1
            by_cases w2 : (s.data.toList.drop a).takeWhile isLow = [102, 97, 108, 115, 101]
            · have e2 : ((s.extract a q).toList == [102, 97, 108, 115, 101]) = true := by rw [hW.1, w2]; rfl
              have h := hr.out
              unfold wordP at h
              rw [if_neg w1, if_pos w2] at h
              obtain ⟨rfl, rfl, rfl, rfl, rfl, rfl⟩ := resV_ok h
              have hqa : q = a + 5 := by have := hW.2; rw [w2] at this; simpa using this
              have HQA := Lib.hid hqa
              clear w1 w2 hW h hr HQ hqa
              go_wp2_with fail
              refine bodyPost_ret (v := .tuple #[.agg #[.int .u8 8, .int .i64 a, .int .i64 q, .int .i64 0, .string ⟨#[]⟩], .int .i64 0]) (by simp [results, Tryd.results39, go_sem]) rfl ⟨?_, bel_alloc (Below.refl _ _) _⟩
              rw [HQA.out]; rfl
            · have e2 : ((s.extract a q).toList == [102, 97, 108, 115, 101]) = false := by rw [hW.1]; exact beq_eq_false_iff_ne.2 w2
              have h := hr.out
              unfold wordP at h
              rw [if_neg w1, if_neg w2] at h
              obtain ⟨rfl, rfl, rfl, rfl, rfl, rfl⟩ := resV_bad (by decide) h
              clear w1 w2 hW h hr HQ
              go_wp2_with fail
              exact bodyPost_ret (v := .tuple #[.agg #[.int .u8 0, .int .i64 0, .int .i64 0, .int .i64 0, .string ⟨#[]⟩], .int .i64 3]) (by simp [results, Tryd.results39, go_sem]) rfl ⟨rfl, bel_alloc (Below.refl _ _) _⟩
    · have hW := word_end haq hq (fun hh => absurd hh hlt) HQ.out
      by_cases w1 : (s.data.toList.drop a).takeWhile isLow = [116, 114, 117, 101]
      · have e1 : ((s.extract a q).toList == [116, 114, 117, 101]) = true := by rw [hW.1, w1]; rfl
        have h := hr.out
        unfold wordP at h
        rw [if_pos w1] at h
        obtain ⟨rfl, rfl, rfl, rfl, rfl, rfl⟩ := resV_ok h
        have hqa : q = a + 4 := by have := hW.2; rw [w1] at this; simpa using this
        have HQA := Lib.hid hqa
        clear w1 hW h hr HQ hqa
        go_wp2_with fail
        refine bodyPost_ret (v := .tuple #[.agg #[.int .u8 7, .int .i64 a, .int .i64 q, .int .i64 0, .string ⟨#[]⟩], .int .i64 0]) (by simp [results, Tryd.results39, go_sem]) rfl ⟨?_, bel_alloc (Below.refl _ _) _⟩
        rw [HQA.out]; rfl
      · have e1 : ((s.extract a q).toList == [116, 114, 117, 101]) = false := by rw [hW.1]; exact beq_eq_false_iff_ne.2 w1
        by_cases w2 : (s.data.toList.drop a).takeWhile isLow = [102, 97, 108, 115, 101]
        · have e2 : ((s.extract a q).toList == [102, 97, 108, 115, 101]) = true := by rw [hW.1, w2]; rfl
          have h := hr.out
          unfold wordP at h
          rw [if_neg w1, if_pos w2] at h
          obtain ⟨rfl, rfl, rfl, rfl, rfl, rfl⟩ := resV_ok h
          have hqa : q = a + 5 := by have := hW.2; rw [w2] at this; simpa using this
          have HQA := Lib.hid hqa
          clear w1 w2 hW h hr HQ hqa
          go_wp2_with fail
          refine bodyPost_ret (v := .tuple #[.agg #[.int .u8 8, .int .i64 a, .int .i64 q, .int .i64 0, .string ⟨#[]⟩], .int .i64 0]) (by simp [results, Tryd.results39, go_sem]) rfl ⟨?_, bel_alloc (Below.refl _ _) _⟩
          rw [HQA.out]; rfl
        · have e2 : ((s.extract a q).toList == [102, 97, 108, 115, 101]) = false := by rw [hW.1]; exact beq_eq_false_iff_ne.2 w2
          have h := hr.out
          unfold wordP at h
          rw [if_neg w1, if_neg w2] at h
          obtain ⟨rfl, rfl, rfl, rfl, rfl, rfl⟩ := resV_bad (by decide) h
          clear w1 w2 hW h hr HQ
          go_wp2_with fail
          exact bodyPost_ret (v := .tuple #[.agg #[.int .u8 0, .int .i64 0, .int .i64 0, .int .i64 0, .string ⟨#[]⟩], .int .i64 3]) (by simp [results, Tryd.results39, go_sem]) rfl ⟨rfl, bel_alloc (Below.refl _ _) _⟩
end Go.Proofs.YtkflnbmbkilicaaDoor
