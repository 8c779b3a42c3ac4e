/-
  legateref01.Value and legateref05.number: the number of four hexadecimal digits, by the document's words.
  hex.Digit, hex.Is; legateref01.Is, legateref15.Digest, legateref14.Hex: hexadecimal digits.
  legateref14.Hex, legateref16.sig, sign.maySig: signatures that may be.
  legateref16.Sig: the signature of an object, by the document.
-/
import Derived.Test.YtmggmpigpiaagaaGreatDoorQuoteB
import Derived.BigQuiet
import Derived.Test.YtmggmpigpiaagaaGreatDoorSignP
import Derived.IntWalk
import Derived.Test.YtmggmpigpiaagaaGreatDoorPickD4
namespace Go.Proofs.YtmggmpigpiaagaaGreatDoor
section
set_option maxRecDepth 100000
open Go.RowKit
def valV (c : Int) : Int := if 48 ≤ c ∧ c ≤ 57 then c - 48 else if 97 ≤ c ∧ c ≤ 102 then c - 87 else -1
theorem ret1i {a a' : Int} (h : a = a') : Ending.returned (.int .i64 a) = .returned (.int .i64 a') := by rw [h]
theorem refValue_any (c : Int) (w : World) (h0 : 0 ≤ c) (h1 : c ≤ 255) (v : Int) (hv : Hid (valV c = v)) :
   Calls Tryz.prog 145 #[.int .u8 c] w fun e w' => e = .returned (.int .i64 v) ∧ w = w' := by
 have h := hv.out
 unfold valV at h
 clear hv
 by_cases a1 : c < 48
 · rw [if_neg (by omega), if_neg (by omega)] at h
   have d1 : decide (48 ≤ c) = false := by simp; omega
   have d2 : decide (97 ≤ c) = false := by simp; omega
   have HH := Lib.hid h
   clear h
   go_enter Tryz.func145, Tryz.ntmps145
   go_wp2_with fail
   go_ret
   exact ⟨ret1i HH.out, rfl⟩
 · have d1 : decide (48 ≤ c) = true := by simp; omega
   by_cases a2 : c ≤ 57
   · rw [if_pos (by omega)] at h
     have d2 : decide (c ≤ 57) = true := by simp; omega
     have HH := Lib.hid h
     clear h
     go_enter Tryz.func145, Tryz.ntmps145
     go_wp2_with fail
     go_ret
     exact ⟨ret1i HH.out, rfl⟩
   · have d2 : decide (c ≤ 57) = false := by simp; omega
     by_cases a3 : c < 97
     · rw [if_neg (by omega), if_neg (by omega)] at h
       have d3 : decide (97 ≤ c) = false := by simp; omega
       have HH := Lib.hid h
       clear h
       go_enter Tryz.func145, Tryz.ntmps145
       go_wp2_with fail
       go_ret
       exact ⟨ret1i HH.out, rfl⟩
     · have d3 : decide (97 ≤ c) = true := by simp; omega
       by_cases a4 : c ≤ 102
       · rw [if_neg (by omega), if_pos (by omega)] at h
         have d4 : decide (c ≤ 102) = true := by simp; omega
         have HH := Lib.hid h
         clear h
         go_enter Tryz.func145, Tryz.ntmps145
         go_wp2_with fail
         go_ret
         exact ⟨ret1i (by have := HH.out; omega), rfl⟩
       · rw [if_neg (by omega), if_neg (by omega)] at h
         have d4 : decide (c ≤ 102) = false := by simp; omega
         have HH := Lib.hid h
         clear h
         go_enter Tryz.func145, Tryz.ntmps145
         go_wp2_with fail
         go_ret
         exact ⟨ret1i HH.out, rfl⟩
theorem hexV_low (c : UInt8) : valV (if 65 ≤ c.toNat ∧ c.toNat ≤ 70 then (c.toNat : Int) + 32 else (c.toNat : Int)) = hexV c := by
 unfold valV hexV
 by_cases h : 65 ≤ c.toNat ∧ c.toNat ≤ 70
 · rw [if_pos h, if_neg (by omega), if_pos (by omega), if_neg (by omega), if_neg (by omega), if_pos h]; omega
 · rw [if_neg h]
   by_cases h1 : 48 ≤ c.toNat ∧ c.toNat ≤ 57
   · rw [if_pos (by omega), if_pos h1]
   · rw [if_neg (by omega), if_neg h1]
     by_cases h2 : 97 ≤ c.toNat ∧ c.toNat ≤ 102
     · rw [if_pos (by omega), if_pos h2]
     · rw [if_neg (by omega), if_neg h2, if_neg h]
theorem fourGo_rest (k : Nat) (n : Int) (s : ByteArray) (a : Nat) (h : a < s.size) : fourGo (k + 1) n (s.data.toList.drop a) = if hexV s[a] < 0 then (0, 3) else fourGo k (16 * n + hexV s[a]) (s.data.toList.drop (a + 1)) := by
 rw [drop_at h, fourGo]
set_option maxHeartbeats 2000000 in
theorem refNumber_any (s : ByteArray) (a : Nat) (w : World) (hs : s.size ≤ 281474976710656) (ha : a ≤ s.size) (r1 r2 : Int) (hr : Hid (fourP (s.data.toList.drop a) = (r1, r2))) :
   Calls Tryz.prog 167 #[.string s, .int .i64 a] w fun e w' => e = .returned (.tuple #[.int .i64 r1, .int .i64 r2]) ∧ w = w' := by
 go_enter Tryz.func167, Tryz.ntmps167
 go_wp2_with fail
 go_loop [6, 7] (fun nv i => ∃ (k : Nat) (n : Int), k ≤ 4 ∧ i = .int .i64 k ∧ nv = .int .i64 n ∧ 0 ≤ n ∧ n < 65536 ∧ (k ≤ 3 → n < 4096) ∧ (k ≤ 2 → n < 256) ∧ (k ≤ 1 → n < 16) ∧ (k = 0 → n = 0) ∧ Hid (fourGo (4 - k) n (s.data.toList.drop (a + k)) = (r1, r2))) (fun _ i => 4 - (intOf i).toNat)
 case atStart => exact ⟨0, 0, by omega, rfl, rfl, by omega, by omega, by omega, by omega, by omega, by omega, hr⟩
 case round =>
   obtain ⟨k, n, hk, rfl, rfl, hn0, hn1, hn3, hn2, hn4, hn5, HF⟩ := hrel
   by_cases hk4 : k < 4
   · obtain ⟨f, hf⟩ : ∃ f, 4 - k = f + 1 := ⟨3 - k, by omega⟩
     by_cases hend : s.size ≤ a + k
     · have h := HF.out
       rw [hf, drop_none hend, fourGo] at h
       have HH := Lib.hid h
       clear h HF hf
       go_wp2_with fail
       go_ret2
       have h := HH.out
       simp only [Prod.mk.injEq] at h
       exact ⟨ret_ii h.1 h.2, rfl⟩
     · have hlt : a + k < s.size := by omega
       have h := HF.out
       rw [hf, fourGo_rest f n s (a + k) hlt] at h
       have hv := hexV_low s[a + k]
       have hb := hexV_bd s[a + k]
       obtain ⟨v, hvv⟩ : ∃ v, hexV s[a + k] = v := ⟨_, rfl⟩
       rw [hvv] at h hv hb
       have hc255 : s[a + k].toNat ≤ 255 := by have := s[a + k].toNat_lt; omega
       have hc0 : (0 : Int) ≤ (s[a + k].toNat : Int) := by omega
       clear hvv HF
       by_cases hup : 65 ≤ s[a + k].toNat ∧ s[a + k].toNat ≤ 70
       · rw [if_pos hup] at hv
         have d1 : decide ((65 : Int) ≤ (s[a + k].toNat : Int)) = true := by simp; omega
         have d2 : decide ((s[a + k].toNat : Int) ≤ 70) = true := by simp; omega
         have HV := Lib.hid (fun W => refValue_any ((s[a + k].toNat : Int) + 32) W (by omega) (by omega) v hv)
         by_cases hneg : v < 0
         · rw [if_pos hneg] at h
           have HH := Lib.hid h
           clear h hv
           go_wp2_with fail
           refine (HV.out _).mono ?_
           rintro e w3 ⟨rfl, rfl⟩
           go_wp2_with fail
           go_ret2
           have h := HH.out
           simp only [Prod.mk.injEq] at h
           exact ⟨ret_ii h.1 h.2, rfl⟩
         · rw [if_neg hneg] at h
           have HH := Lib.hid h
           clear h hv
           go_wp2_with fail
           refine (HV.out _).mono ?_
           rintro e w3 ⟨rfl, rfl⟩
           go_wp2_with fail
           refine ⟨⟨k + 1, 16 * n + v, by omega, by go_num, rfl, by omega, by omega, by omega, by omega, by omega, by omega, ?_⟩, by simp [intOf]; omega⟩
           rw [show 4 - (k + 1) = f by omega]
           exact HH
       · rw [if_neg hup] at hv
         have HV := Lib.hid (fun W => refValue_any ((s[a + k].toNat : Int)) W (by omega) (by omega) v hv)
         by_cases hlo : 65 ≤ s[a + k].toNat
         · have d1 : decide ((65 : Int) ≤ (s[a + k].toNat : Int)) = true := by simp; omega
           have d2 : decide ((s[a + k].toNat : Int) ≤ 70) = false := by simp; omega
           by_cases hneg : v < 0
           · rw [if_pos hneg] at h
             have HH := Lib.hid h
             clear h hv hup
             go_wp2_with fail
             refine (HV.out _).mono ?_
             rintro e w3 ⟨rfl, rfl⟩
             go_wp2_with fail
             go_ret2
             have h := HH.out
             simp only [Prod.mk.injEq] at h
             exact ⟨ret_ii h.1 h.2, rfl⟩
           · rw [if_neg hneg] at h
             have HH := Lib.hid h
             clear h hv hup
             go_wp2_with fail
             refine (HV.out _).mono ?_
             rintro e w3 ⟨rfl, rfl⟩
             go_wp2_with fail
             refine ⟨⟨k + 1, 16 * n + v, by omega, by go_num, rfl, by omega, by omega, by omega, by omega, by omega, by omega, ?_⟩, by simp [intOf]; omega⟩
             rw [show 4 - (k + 1) = f by omega]
             exact HH
         · have d1 : decide ((65 : Int) ≤ (s[a + k].toNat : Int)) = false := by simp; omega
           by_cases hneg : v < 0
           · rw [if_pos hneg] at h
             have HH := Lib.hid h
             clear h hv hup
             go_wp2_with fail
             refine (HV.out _).mono ?_
             rintro e w3 ⟨rfl, rfl⟩
             go_wp2_with fail
             go_ret2
             have h := HH.out
             simp only [Prod.mk.injEq] at h
             exact ⟨ret_ii h.1 h.2, rfl⟩
           · rw [if_neg hneg] at h
             have HH := Lib.hid h
             clear h hv hup
             go_wp2_with fail
             refine (HV.out _).mono ?_
             rintro e w3 ⟨rfl, rfl⟩
             go_wp2_with fail
             refine ⟨⟨k + 1, 16 * n + v, by omega, by go_num, rfl, by omega, by omega, by omega, by omega, by omega, by omega, ?_⟩, by simp [intOf]; omega⟩
             rw [show 4 - (k + 1) = f by omega]
             exact HH
   · obtain rfl : k = 4 := by omega
     have h := HF.out
     rw [Nat.sub_self, fourGo] at h
     have HH := Lib.hid h
     clear h HF
     go_wp2_with fail
     go_ret2
     have h := HH.out
     simp only [Prod.mk.injEq] at h
     exact ⟨ret_ii h.1 h.2, rfl⟩
end

section
set_option maxRecDepth 100000
open Go.RowKit
theorem all_more {s : ByteArray} {k : Nat} (h : k < s.size) (ha : (s.data.toList.take k).all digB = true) (hc : digB s[k] = true) : (s.data.toList.take (k + 1)).all digB = true := by
 rw [take_snoc s k h, List.all_append, ha]
 simp [hc]
theorem hexB_no {s : ByteArray} {k : Nat} (h : k < s.size) (hc : digB s[k] = false) : hexB s = false := by
 unfold hexB
 rw [List.all_eq_false]
 exact ⟨s[k], mem_at s k h, by simp [hc]⟩
theorem hexB_yes {s : ByteArray} {k : Nat} (h : ¬ k < s.size) (ha : (s.data.toList.take k).all digB = true) : hexB s = true := by
 rw [List.take_of_length_le (by rw [size_len]; omega)] at ha
 exact ha
theorem digB_val (c : UInt8) : (digB c = true → 0 ≤ valV (c.toNat : Int)) ∧ (digB c = false → valV (c.toNat : Int) < 0) := by
 unfold digB valV
 constructor
 · intro h
   simp only [Bool.or_eq_true, Bool.and_eq_true, decide_eq_true_eq] at h
   split
   · omega
   · split <;> omega
 · intro h
   simp only [Bool.or_eq_false_iff, Bool.and_eq_false_iff, decide_eq_false_iff_not] at h
   split
   · omega
   · split <;> omega
set_option maxHeartbeats 2000000 in
theorem refIs_any (s : ByteArray) (w : World) (hs : s.size ≤ 281474976710656) :
   Calls Tryz.prog 127 #[.string s] w fun e w' => e = .returned (.bool (hexB s)) ∧ w = w' := by
 go_enter Tryz.func127, Tryz.ntmps127
 go_wp2_with fail
 go_loop [3] (fun i => ∃ k : Nat, k ≤ s.size ∧ i = .int .i64 k ∧ Hid ((s.data.toList.take k).all digB = true)) (fun i => s.size - (intOf i).toNat)
 case atStart => exact ⟨0, by omega, rfl, by show _ = _; simp⟩
 case round =>
   obtain ⟨k, hk, rfl, HA⟩ := hrel
   by_cases hlt : k < s.size
   · have i0 : (0 : Int) ≤ (k : Int) := by omega
     have i1 : (k : Int) < (s.size : Int) := by omega
     have hb := u8_lt s[k]
     obtain ⟨v, hv⟩ : ∃ v, valV (s[k].toNat : Int) = v := ⟨_, rfl⟩
     have HV := Lib.hid (fun W => refValue_any (s[k].toNat : Int) W (by omega) (by omega) v hv)
     have hd := digB_val s[k]
     rw [hv] at hd
     by_cases hdg : digB s[k] = true
     · have hv0 := hd.1 hdg
       have hv1 : ¬ v < 0 := by omega
       have HM := Lib.hid (all_more hlt HA.out hdg)
       clear hdg hd hv HA
       go_wp2_with fail
       refine (HV.out _).mono ?_
       rintro e w2 ⟨rfl, rfl⟩
       go_wp2_with fail
       exact ⟨⟨k + 1, by omega, by go_num, HM⟩, by simp [intOf]; omega⟩
     · have hdg' : digB s[k] = false := by simpa using hdg
       have hv1 := hd.2 hdg'
       have hno := hexB_no hlt hdg'
       have HNO := Lib.hid hno
       clear hdg hdg' hd hv HA hno
       go_wp2_with fail
       refine (HV.out _).mono ?_
       rintro e w2 ⟨rfl, rfl⟩
       go_wp2_with fail
       go_ret
       exact ⟨ret_bool HNO.out.symm, rfl⟩
   · have hno := Lib.hid (hexB_yes hlt HA.out)
     clear HA
     go_wp2_with fail
     go_ret
     exact ⟨ret_bool hno.out.symm, rfl⟩
set_option maxHeartbeats 2000000 in
theorem hexDig2_any (s : ByteArray) (k : Nat) (w : World) (_hs : s.size ≤ 281474976710656) (hk : k < s.size) :
   Calls Tryz.prog 79 #[.string s, .int .i64 k] w fun e w' => (∃ d : Int, e = .returned (.tuple #[.int .i64 d, .bool (digB s[k])])) ∧ w = w' := by
 have i0 : (0 : Int) ≤ (k : Int) := by omega
 have i1 : (k : Int) < (s.size : Int) := by omega
 have hb := u8_lt s[k]
 obtain ⟨b, hbe⟩ : ∃ b, digB s[k] = b := ⟨_, rfl⟩
 rw [hbe]
 have hcs : (s[k].toNat < 48 ∧ b = false) ∨ (48 ≤ s[k].toNat ∧ s[k].toNat ≤ 57 ∧ b = true) ∨ (58 ≤ s[k].toNat ∧ s[k].toNat < 97 ∧ b = false) ∨ (97 ≤ s[k].toNat ∧ s[k].toNat ≤ 102 ∧ b = true) ∨ (103 ≤ s[k].toNat ∧ b = false) := by
   rw [← hbe]
   unfold digB
   simp only [Bool.or_eq_true, Bool.and_eq_true, decide_eq_true_eq, Bool.or_eq_false_iff, Bool.and_eq_false_iff, decide_eq_false_iff_not]
   omega
 clear hbe
 rcases hcs with ⟨h1, rfl⟩ | ⟨h1, h2, rfl⟩ | ⟨h1, h2, rfl⟩ | ⟨h1, h2, rfl⟩ | ⟨h1, rfl⟩
 · have d1 : ¬ (48 : Int) ≤ (s[k].toNat : Int) := by omega
   have d2 : ¬ (97 : Int) ≤ (s[k].toNat : Int) := by omega
   go_enter Tryz.func79, Tryz.ntmps79
   go_wp2_with fail
   go_ret2
   exact ⟨⟨_, rfl⟩, rfl⟩
 · have d1 : (48 : Int) ≤ (s[k].toNat : Int) := by omega
   have d2 : (s[k].toNat : Int) ≤ 57 := by omega
   go_enter Tryz.func79, Tryz.ntmps79
   go_wp2_with fail
   go_ret2
   exact ⟨⟨_, rfl⟩, rfl⟩
 · have d1 : (48 : Int) ≤ (s[k].toNat : Int) := by omega
   have d2 : ¬ (s[k].toNat : Int) ≤ 57 := by omega
   have d3 : ¬ (97 : Int) ≤ (s[k].toNat : Int) := by omega
   go_enter Tryz.func79, Tryz.ntmps79
   go_wp2_with fail
   go_ret2
   exact ⟨⟨_, rfl⟩, rfl⟩
 · have d1 : (48 : Int) ≤ (s[k].toNat : Int) := by omega
   have d2 : ¬ (s[k].toNat : Int) ≤ 57 := by omega
   have d3 : (97 : Int) ≤ (s[k].toNat : Int) := by omega
   have d4 : (s[k].toNat : Int) ≤ 102 := by omega
   go_enter Tryz.func79, Tryz.ntmps79
   go_wp2_with fail
   go_ret2
   exact ⟨⟨_, rfl⟩, rfl⟩
 · have d1 : (48 : Int) ≤ (s[k].toNat : Int) := by omega
   have d2 : ¬ (s[k].toNat : Int) ≤ 57 := by omega
   have d3 : (97 : Int) ≤ (s[k].toNat : Int) := by omega
   have d4 : ¬ (s[k].toNat : Int) ≤ 102 := by omega
   go_enter Tryz.func79, Tryz.ntmps79
   go_wp2_with fail
   go_ret2
   exact ⟨⟨_, rfl⟩, rfl⟩
set_option maxHeartbeats 2000000 in
theorem hexIs_any (s : ByteArray) (w : World) (hs : s.size ≤ 281474976710656) :
   Calls Tryz.prog 43 #[.string s] w fun e w' => e = .returned (.bool (hexB s)) ∧ w = w' := by
 go_enter Tryz.func43, Tryz.ntmps43
 go_wp2_with fail
 go_loop [8] (fun i => ∃ k : Nat, k ≤ s.size ∧ i = .int .i64 k ∧ Hid ((s.data.toList.take k).all digB = true)) (fun i => s.size - (intOf i).toNat)
 case atStart => exact ⟨0, by omega, rfl, by show _ = _; simp⟩
 case round =>
   obtain ⟨k, hk, rfl, HA⟩ := hrel
   by_cases hlt : k < s.size
   · have i1 : (k : Int) < (s.size : Int) := by omega
     have HV := Lib.hid (fun W => hexDig2_any s k W hs hlt)
     by_cases hdg : digB s[k] = true
     · have HM := Lib.hid (all_more hlt HA.out hdg)
       rw [hdg] at HV
       clear hdg HA
       go_wp2_with fail
       refine (HV.out _).mono ?_
       rintro e w2 ⟨⟨d, rfl⟩, rfl⟩
       go_wp2_with fail
       exact ⟨⟨k + 1, by omega, by go_num, HM⟩, by simp [intOf]; omega⟩
     · have hdg' : digB s[k] = false := by simpa using hdg
       have HNO := Lib.hid (hexB_no hlt hdg')
       rw [hdg'] at HV
       clear hdg hdg' HA
       go_wp2_with fail
       refine (HV.out _).mono ?_
       rintro e w2 ⟨⟨d, rfl⟩, rfl⟩
       go_wp2_with fail
       go_ret
       exact ⟨ret_bool HNO.out.symm, rfl⟩
   · have hno := Lib.hid (hexB_yes hlt HA.out)
     have i1 : ¬ (k : Int) < (s.size : Int) := by omega
     clear HA
     go_wp2_with fail
     go_ret
     exact ⟨ret_bool hno.out.symm, rfl⟩
theorem refDigest_any (s : ByteArray) (w : World) (hs : s.size ≤ 281474976710656) :
   Calls Tryz.prog 99 #[.string s] w fun e w' => e = .returned (.bool (decide (s.size = 64) && hexB s)) ∧ w = w' := by
 have HI := Lib.hid (fun W => refIs_any s W hs)
 by_cases h : s.size = 64
 · have hb : ((s.size : Int) == 64) = true := by rw [h]; rfl
   have hr : (decide (s.size = 64) && hexB s) = hexB s := by rw [decide_eq_true h]; rfl
   rw [hr]
   clear hr
   go_enter Tryz.func99, Tryz.ntmps99
   go_wp2_with fail
   refine (HI.out _).mono ?_
   rintro e w2 ⟨rfl, rfl⟩
   go_wp2_with fail
   go_ret
   exact ⟨rfl, rfl⟩
 · have hb : ((s.size : Int) == 64) = false := beq_eq_false_iff_ne.2 (by omega)
   have hr : (decide (s.size = 64) && hexB s) = false := by rw [decide_eq_false h]; rfl
   rw [hr]
   clear hr
   go_enter Tryz.func99, Tryz.ntmps99
   go_wp2_with fail
   go_ret
   exact ⟨rfl, rfl⟩
end

section
set_option maxRecDepth 100000
open Go.RowKit
theorem rem_two (n : Nat) : Int.tmod (n : Int) 2 = ((n % 2 : Nat) : Int) := by
 rw [Int.tmod_eq_emod_of_nonneg (by omega)]
 omega
def hex14 (s : ByteArray) : Bool := decide (2 ≤ s.size) && decide (s.size ≤ 128) && decide (s.size % 2 = 0) && hexB s
set_option maxHeartbeats 2000000 in
theorem hex14_any (s : ByteArray) (w : World) (hs : s.size ≤ 281474976710656) :
   Calls Tryz.prog 100 #[.string s] w fun e w' => e = .returned (.bool (hex14 s)) ∧ w = w' := by
 have HI := Lib.hid (fun W => refIs_any s W hs)
 by_cases h1 : 2 ≤ s.size
 · have g1 : (2 : Int) ≤ (s.size : Int) := by omega
   by_cases h2 : s.size ≤ 128
   · have g2 : (s.size : Int) ≤ 128 := by omega
     have hr2 := rem_two s.size
     by_cases h3 : s.size % 2 = 0
     · have hr : hex14 s = hexB s := by simp [hex14, h1, h2, h3]
       have g3 : Int.tmod (s.size : Int) 2 = 0 := by rw [hr2, h3]; rfl
       rw [hr]
       clear hr hr2 h1 h2 h3
       go_enter Tryz.func100, Tryz.ntmps100
       go_wp2_with fail
       refine (HI.out _).mono ?_
       rintro e w2 ⟨rfl, rfl⟩
       go_wp2_with fail
       go_ret
       exact ⟨rfl, rfl⟩
     · have hr : hex14 s = false := by simp [hex14, h3]
       have g3 : ¬ Int.tmod (s.size : Int) 2 = 0 := by rw [hr2]; omega
       rw [hr]
       clear hr hr2 h1 h2 h3
       go_enter Tryz.func100, Tryz.ntmps100
       go_wp2_with fail
       go_ret
       exact ⟨rfl, rfl⟩
   · have g2 : ¬ (s.size : Int) ≤ 128 := by omega
     have hr : hex14 s = false := by simp [hex14, h2]
     rw [hr]
     clear hr h1 h2
     go_enter Tryz.func100, Tryz.ntmps100
     go_wp2_with fail
     go_ret
     exact ⟨rfl, rfl⟩
 · have g1 : ¬ (2 : Int) ≤ (s.size : Int) := by omega
   have hr : hex14 s = false := by simp [hex14, h1]
   rw [hr]
   clear hr h1
   go_enter Tryz.func100, Tryz.ntmps100
   go_wp2_with fail
   go_ret
   exact ⟨rfl, rfl⟩
theorem sigB_eq (id sg : ByteArray) : sigB id sg = ((decide (id.size = 64) && hexB id) && hex14 sg) := by
 unfold sigB hex14
 simp only [Bool.and_assoc]
set_option maxHeartbeats 2000000 in
theorem refSig_any (id sg : ByteArray) (w : World) (hs : id.size ≤ 281474976710656) (ht : sg.size ≤ 281474976710656) :
   Calls Tryz.prog 78 #[.agg #[.string id, .string sg]] w fun e w' => e = .returned (.bool (sigB id sg)) ∧ Below w.heap.size w w' := by
 have HD := Lib.hid (fun W => refDigest_any id W hs)
 have HX := Lib.hid (fun W => hex14_any sg W ht)
 rw [sigB_eq]
 obtain ⟨b, hb⟩ : ∃ b, (decide (id.size = 64) && hexB id) = b := ⟨_, rfl⟩
 obtain ⟨c, hc⟩ : ∃ c, hex14 sg = c := ⟨_, rfl⟩
 rw [hb] at HD ⊢
 rw [hc] at HX ⊢
 clear hb hc
 go_enter Tryz.func78, Tryz.ntmps78
 go_wp2_with fail
 refine (HD.out _).mono ?_
 rintro e w2 ⟨rfl, rfl⟩
 cases b with
 | true =>
   go_wp2_with fail
   refine (HX.out _).mono ?_
   rintro e w2 ⟨rfl, rfl⟩
   go_wp2_with fail
   go_ret
   exact ⟨rfl, bel_alloc (Below.refl _ _) _⟩
 | false =>
   go_wp2_with fail
   go_ret
   exact ⟨rfl, bel_alloc (Below.refl _ _) _⟩
set_option maxHeartbeats 2000000 in
theorem maySig_any (id sg : ByteArray) (w : World) (hs : id.size ≤ 281474976710656) (ht : sg.size ≤ 281474976710656) :
   Calls Tryz.prog 21 #[.agg #[.string id, .string sg]] w fun e w' => e = .returned (.bool (sigB id sg)) ∧ Below w.heap.size w w' := by
 have HD := Lib.hid (fun W => hexIs_any id W hs)
 have HX := Lib.hid (fun W => hexIs_any sg W ht)
 by_cases h1 : id.size = 64
 · have g1 : ((id.size : Int) != 64) = false := by rw [h1]; rfl
   cases hb : hexB id with
   | true =>
     rw [hb] at HD
     by_cases h2 : 0 < sg.size
     · have g2 : (0 : Int) < (sg.size : Int) := by omega
       by_cases h3 : sg.size ≤ 128
       · have g3 : (sg.size : Int) ≤ 128 := by omega
         have hr2 := rem_two sg.size
         by_cases h4 : sg.size % 2 = 0
         · have hr : sigB id sg = hexB sg := by simp [sigB, h1, hb, h3, h4, show 2 ≤ sg.size by omega]
           have g4 : Int.tmod (sg.size : Int) 2 = 0 := by rw [hr2, h4]; rfl
           rw [hr]
           clear hr hr2 h1 h2 h3 h4 hb
           go_enter Tryz.func21, Tryz.ntmps21
           go_wp2_with fail
           refine (HD.out _).mono ?_
           rintro e w2 ⟨rfl, rfl⟩
           go_wp2_with fail
           refine (HX.out _).mono ?_
           rintro e w2 ⟨rfl, rfl⟩
           go_wp2_with fail
           go_ret
           exact ⟨rfl, bel_alloc (Below.refl _ _) _⟩
         · have hr : sigB id sg = false := by simp [sigB, h4]
           have g4 : ¬ Int.tmod (sg.size : Int) 2 = 0 := by rw [hr2]; omega
           rw [hr]
           clear hr hr2 h1 h2 h3 h4 hb
           go_enter Tryz.func21, Tryz.ntmps21
           go_wp2_with fail
           refine (HD.out _).mono ?_
           rintro e w2 ⟨rfl, rfl⟩
           go_wp2_with fail
           go_ret
           exact ⟨rfl, bel_alloc (Below.refl _ _) _⟩
       · have g3 : ¬ (sg.size : Int) ≤ 128 := by omega
         have hr : sigB id sg = false := by simp [sigB, h3]
         rw [hr]
         clear hr h1 h2 h3 hb
         go_enter Tryz.func21, Tryz.ntmps21
         go_wp2_with fail
         refine (HD.out _).mono ?_
         rintro e w2 ⟨rfl, rfl⟩
         go_wp2_with fail
         go_ret
         exact ⟨rfl, bel_alloc (Below.refl _ _) _⟩
     · have g2 : ¬ (0 : Int) < (sg.size : Int) := by omega
       have hr : sigB id sg = false := by simp [sigB, show ¬ 2 ≤ sg.size by omega]
       rw [hr]
       clear hr h1 h2 hb
       go_enter Tryz.func21, Tryz.ntmps21
       go_wp2_with fail
       refine (HD.out _).mono ?_
       rintro e w2 ⟨rfl, rfl⟩
       go_wp2_with fail
       go_ret
       exact ⟨rfl, bel_alloc (Below.refl _ _) _⟩
   | false =>
     rw [hb] at HD
     have hr : sigB id sg = false := by simp [sigB, hb]
     rw [hr]
     clear hr h1 hb
     go_enter Tryz.func21, Tryz.ntmps21
     go_wp2_with fail
     refine (HD.out _).mono ?_
     rintro e w2 ⟨rfl, rfl⟩
     go_wp2_with fail
     go_ret
     exact ⟨rfl, bel_alloc (Below.refl _ _) _⟩
 · have g1 : ((id.size : Int) != 64) = true := by rw [bne_iff_ne]; omega
   have hr : sigB id sg = false := by simp [sigB, h1]
   rw [hr]
   clear hr h1
   go_enter Tryz.func21, Tryz.ntmps21
   go_wp2_with fail
   go_ret
   exact ⟨rfl, bel_alloc (Below.refl _ _) _⟩
end

section
set_option maxRecDepth 100000
open Go.RowKit
theorem may_short {V : JV} (h : mayB V = true) : V.t.size ≤ 4096 := by
 obtain ⟨a, -, -⟩ := (mayB_iff V).1 h
 rw [goodV_eq, Bool.and_eq_true] at a
 by_cases hk : V.k = 3
 · have := proper_text a.1 hk
   simp only [writ, Bool.and_eq_true, decide_eq_true_eq] at this
   exact this.1
 · have : V.t.data.toList = [] := by
     rcases proper_parts a.1 with ⟨-, -, e, -⟩ | ⟨-, e, -⟩ | ⟨e, -⟩ | ⟨-, -, e, -⟩ | ⟨-, -, e, -⟩
     · exact e
     · exact e
     · exact absurd e hk
     · exact e
     · exact e
   rw [← size_len, this]
   simp
theorem takeQ_mem {V : JV} {nm : ByteArray} {k : Int} {s s' : PS} {y : JV} (h : takeQ V nm k s = (some y, s')) : y ∈ V.items ∧ y.k = k := by
 cases s with
 | bad e => rw [takeQ] at h; cases h
 | ok A =>
   rw [takeQ] at h
   split at h
   · cases h
   · next x hx =>
     split at h
     · next e => cases h; exact ⟨getN_mem hx, e⟩
     · cases h
theorem pick_ok {V : JV} {A : List ByteArray} (h : pickQ V = .ok A) : V.k = 5 ∧ A = [] := by
 unfold pickQ at h
 split at h
 · next e => cases h; exact ⟨e, rfl⟩
 · cases h
theorem take_ok {V : JV} {nm : ByteArray} {k : Int} {s s' : PS} {A : List ByteArray} {R : Option JV} (h : takeQ V nm k s = (R, s')) (h' : s' = .ok A) : ∃ B, s = .ok B ∧ A = B ++ [nm] := by
 cases s with
 | bad e => rw [takeQ] at h; cases h; cases h'
 | ok B =>
   rw [takeQ] at h
   split at h
   · cases h; cases h'
   · split at h
     · cases h; cases h'; exact ⟨B, rfl, rfl⟩
     · cases h; cases h'
theorem text_ok {V : JV} {nm : ByteArray} {s s' : PS} {A : List ByteArray} {t : ByteArray} (h : textQ V nm s = (t, s')) (h' : s' = .ok A) : ∃ B, s = .ok B ∧ A = B ++ [nm] := by
 obtain ⟨R, s1, hR⟩ : ∃ R s1, takeQ V nm 3 s = (R, s1) := ⟨_, _, rfl⟩
 rw [textQ, hR] at h
 cases R with
 | none => cases h; exact take_ok hR h'
 | some y => cases h; exact take_ok hR h'
theorem text_short {V : JV} {s : PS} (hm : mayB V = true) (hk : ∀ A, s = .ok A → V.k = 5) {nm : ByteArray} {s' : PS} {t : ByteArray} (h : textQ V nm s = (t, s')) : t.size ≤ 4096 := by
 obtain ⟨R, s1, hR⟩ : ∃ R s1, takeQ V nm 3 s = (R, s1) := ⟨_, _, rfl⟩
 rw [textQ, hR] at h
 cases R with
 | none => cases h; exact Nat.zero_le _
 | some y =>
   cases h
   obtain ⟨A, hs, -⟩ := takeQ_some hR
   exact may_short (may_item hm (Or.inr (hk A hs)) (takeQ_mem hR).1)
theorem b2 {w : World} {b : Nat} {T : TypeId} {v0 v1 : Value} (h : BlkAt w b T #[v0, v1]) :
   w.cell? ⟨b, 0, none⟩ = some v0 ∧ w.cell? ⟨b, 1, none⟩ = some v1 ∧ ∀ i, w.frozen? ⟨b, i, none⟩ = false :=
 ⟨h.cell 0, h.cell 1, h.free⟩
theorem DSt.olt {Q w0 w : World} {o M : Nat} {V : JV} {x : VC} {av : Value} {s : PS} (h : DSt Q w0 w o M V x av s) : w0.heap.size ≤ o ∧ o < w.heap.size := by
 cases s with
 | bad e =>
   have h' : DBad w0 w o e := h
   obtain ⟨_, _, _, _, _, _, hc⟩ := h'.blk
   exact ⟨h'.lo, BlkAt.lt hc⟩
 | ok A =>
   have h' : DOk Q w0 w o M V x av A := h
   exact ⟨h'.lo, BlkAt.lt h'.blk⟩
def SigPost (V : JV) (w : World) (e : Ending) (w' : World) : Prop :=
 Below w.heap.size w w' ∧ match sigV V with
   | .bad er => (∃ a b, e = .returned (.tuple #[.agg #[.string a, .string b], .int .i64 er])) ∧ er ≠ 0
   | .ok s => e = .returned (.tuple #[.agg #[.string s.1, .string s.2], .int .i64 0])
set_option maxHeartbeats 8000000 in
theorem dSig_any (V : JV) (x : VC) (w : World) (h : ValAt w V x.val) (hm : mayB V = true) :
   Calls Tryz.prog 39 #[x.val] w (SigPost V w) := by
 have HOF := Lib.hid (fun W (hb : Below w.heap.size w W) => dOf_any V x W W W (h.keep hb) (fun _ _ hu => hu) (Below.refl _ _) (may_fit hm))
 obtain ⟨s0, hs0⟩ : ∃ s, pickQ V = s := ⟨_, rfl⟩
 obtain ⟨ta, s1, hs1⟩ : ∃ t s, textQ V tKey s0 = (t, s) := ⟨_, _, rfl⟩
 obtain ⟨tb, s2, hs2⟩ : ∃ t s, textQ V tSig s1 = (t, s) := ⟨_, _, rfl⟩
 have hA0 : ∀ A, s0 = .ok A → A.length ≤ 900 := fun A hA => by rw [(pick_ok (hs0.trans hA)).2]; simp
 have hA1 : ∀ A, s1 = .ok A → A.length ≤ 900 := fun A hA => by
   obtain ⟨B, h1, h2⟩ := text_ok hs1 hA
   rw [h2, (pick_ok (hs0.trans h1)).2]; simp
 have hza : ta.size ≤ 4096 := text_short hm (fun A hA => (pick_ok (hs0.trans hA)).1) hs1
 have hzb : tb.size ≤ 4096 := text_short hm (fun A hA => by obtain ⟨B, h1, h2⟩ := text_ok hs1 hA; exact (pick_ok (hs0.trans h1)).1) hs2
 have hsig : sigV V = if doneQ V s2 ≠ 0 then .bad (doneQ V s2) else if sigB ta tb = true then .ok (ta, tb) else .bad 3 := by
   unfold sigV
   simp only [hs0, hs1, hs2]
 rw [hs0] at HOF
 have HA0 := Lib.hid hA0
 have HA1 := Lib.hid hA1
 have HS1 := Lib.hid hs1
 have HS2 := Lib.hid hs2
 have HSIG := Lib.hid hsig
 have HT1 : Hid (tKey.size ≤ maxLen) := by show _ ≤ _; decide
 have HT2 : Hid (tSig.size ≤ maxLen) := by show _ ≤ _; decide
 have HSB := Lib.hid (fun W => refSig_any ta tb W (by omega) (by omega))
 obtain ⟨xk, xn, xt, xa, xl, xc, xb, xm, xe⟩ := x
 clear h hm hs0 hs1 hs2 hA0 hA1 hsig hza hzb
 go_enter Tryz.func39, Tryz.ntmps39
 simp only [VC.val] at HOF ⊢
 go_wp2_with fail
 refine (HOF.out _ (bel_alloc (bel_alloc (Below.refl _ _) _) _)).mono ?_
 rintro e w2 ⟨o, rfl, -, hb2, hd2⟩
 obtain ⟨W, hW⟩ : ∃ W, W = (w.alloc (.cells #[.int .u8 xk, .int .i64 xn, .string xt, .slice xa xl xc, .slice xb xm xe] 26)).alloc (.cells #[.string ⟨#[]⟩, .string ⟨#[]⟩] 43) := ⟨_, rfl⟩
 have hbW : Below w.heap.size w W := by rw [hW]; exact bel_alloc (bel_alloc (Below.refl _ _) _) _
 have HRB : Hid (BlkAt W (w.heap.size + 1) 43 #[.string ⟨#[]⟩, .string ⟨#[]⟩]) := by
   rw [hW]
   have := blkAt_new (w.alloc (.cells #[.int .u8 xk, .int .i64 xn, .string xt, .slice xa xl xc, .slice xb xm xe] 26)) #[.string ⟨#[]⟩, .string ⟨#[]⟩] 43
   rwa [size_al] at this
 rw [← hW] at hb2 hd2
 have HBW := Lib.hid hbW
 have HB2 := Lib.hid hb2
 have HD2 := Lib.hid hd2
 clear HOF hW hbW hb2 hd2
 go_wp2_with fail
 have ho2 := (HD2.out (o + 1) (by omega)).olt
 have hd3 := (HD2.out (w2.heap.size + 1) (by omega)).keep (bel_alloc (Below.refl w2.heap.size w2) (.cells #[.string ⟨#[]⟩, .string ⟨#[]⟩] 43))
 have HXB3 : Hid (BlkAt (w2.alloc (.cells #[.string ⟨#[]⟩, .string ⟨#[]⟩] 43)) w2.heap.size 43 #[.string ⟨#[]⟩, .string ⟨#[]⟩]) := blkAt_new w2 _ _
 have hs3 := size_al w2 (.cells #[.string ⟨#[]⟩, .string ⟨#[]⟩] 43)
 generalize w2.alloc (.cells #[.string ⟨#[]⟩, .string ⟨#[]⟩] 43) = w3 at hd3 HXB3 hs3 ⊢
 obtain ⟨b, hb⟩ : ∃ b, w2.heap.size = b := ⟨_, rfl⟩
 have hbw : W.heap.size ≤ b := by rw [← hb]; exact HB2.out.size
 rw [hb] at ho2 hd3 HXB3 hs3 ⊢
 clear HD2 HB2 hb
 refine (dText_any hd3 tKey HA0.out (by omega) HT1.out ta s1 HS1).mono ?_
 rintro e w4 ⟨rfl, h4, h4s⟩
 obtain ⟨av4, hd4, hav4⟩ := dst_av h4
 have HXB4 : Hid (BlkAt w4 b 43 #[.string ⟨#[]⟩, .string ⟨#[]⟩]) := (h4s.block b (by omega) (by omega) (by simp [Value.ownBlock])).trans HXB3.out
 have hs4 := BlkAt.lt HXB4.out
 obtain ⟨x0, x1, xf⟩ := b2 HXB4.out
 have HD5 := Lib.hid (hd4.set_low hbw (by omega) (by omega) 0 (.string ta))
 have HXB5 : Hid (BlkAt (w4.setCell ⟨b, 0, none⟩ (.string ta)) b 43 #[.string ta, .string ⟨#[]⟩]) := BlkAt.set HXB4.out 0 _
 have HAV4 := Lib.hid hav4
 have h45 : (w4.setCell ⟨b, 0, none⟩ (.string ta)).heap.size = w4.heap.size := by show (w4.heap.modify _ _).size = _; rw [Array.size_modify]
 clear HXB3 hd3 h4 h4s hd4 hav4
 go_wp2_with fail
 generalize w4.setCell ⟨b, 0, none⟩ (.string ta) = w5 at HD5 HXB5 h45 ⊢
 refine (dText_any HD5.out tSig HA1.out (by omega) HT2.out tb s2 HS2).mono ?_
 rintro e w6 ⟨rfl, h6, h6s⟩
 obtain ⟨av6, hd6, hav6⟩ := dst_av h6
 have HXB6 : Hid (BlkAt w6 b 43 #[.string ta, .string ⟨#[]⟩]) := (h6s.block b (by omega) (by omega) (fun e => by have := (HAV4.out b e.symm).1; omega)).trans HXB5.out
 obtain ⟨y0, y1, yf⟩ := b2 HXB6.out
 have HD7 := Lib.hid (hd6.set_low hbw (by omega) (by omega) 1 (.string tb))
 have HXB7 : Hid (BlkAt (w6.setCell ⟨b, 1, none⟩ (.string tb)) b 43 #[.string ta, .string tb]) := BlkAt.set HXB6.out 1 _
 clear HXB5 HD5 h6 h6s hd6 hav6 x0 x1 xf HXB4 HXB6 HAV4
 go_wp2_with fail
 generalize w6.setCell ⟨b, 1, none⟩ (.string tb) = w7 at HD7 HXB7 ⊢
 refine (dDone_any HD7.out).mono ?_
 rintro e w8 ⟨rfl, hb8⟩
 have hbW8 := below_more HD7.out.bel hb8
 have HR8 := Lib.hid (BlkAt.keep HRB.out hbW8)
 have HX8 := Lib.hid (BlkAt.keep HXB7.out hb8)
 have HB8 := Lib.hid (below_more HBW.out hbW8)
 have hrW := BlkAt.lt HRB.out
 obtain ⟨dq, hdq⟩ : ∃ q, doneQ V s2 = q := ⟨_, rfl⟩
 rw [hdq] at HSIG ⊢
 clear HD7 HXB7 hb8 hbW8 y0 y1 yf hdq HRB HBW
 have hrb : ¬ w.heap.size + 1 = b := by omega
 have hbr : ¬ b = w.heap.size + 1 := by omega
 obtain ⟨x0, x1, xf⟩ := b2 HX8.out
 obtain ⟨r0, r1, rf⟩ := b2 HR8.out
 by_cases hd : dq = 0
 · subst hd
   have hs1 := HSIG.out
   rw [if_neg (by simp)] at hs1
   cases hsb : sigB ta tb with
   | true =>
     rw [hsb] at HSB
     rw [hsb, if_pos rfl] at hs1
     have HSG := Lib.hid hs1
     clear HSIG hs1 hsb
     go_wp2_with fail
     refine (HSB.out _).mono ?_
     rintro e w9 ⟨rfl, hb9⟩
     obtain ⟨x0, x1, xf⟩ := b2 (BlkAt.keep HX8.out hb9)
     obtain ⟨r0, r1, rf⟩ := b2 (BlkAt.keep HR8.out hb9)
     have HB9 := Lib.hid (below_more HB8.out hb9)
     clear hb9 HB8
     go_wp2_with fail
     refine bodyPost_ret (v := .tuple #[.agg #[.string ta, .string tb], .int .i64 0]) (by simp [results, Tryz.results39, go_sem, r0, r1]) rfl ⟨bel_set (bel_set HB9.out (Nat.le_succ _) _) (Nat.le_succ _) _, ?_⟩
     rw [HSG.out]
   | false =>
     rw [hsb] at HSB
     rw [hsb, if_neg (by decide)] at hs1
     have HSG := Lib.hid hs1
     clear HSIG hs1 hsb
     go_wp2_with fail
     refine (HSB.out _).mono ?_
     rintro e w9 ⟨rfl, hb9⟩
     obtain ⟨x0, x1, xf⟩ := b2 (BlkAt.keep HX8.out hb9)
     obtain ⟨r0, r1, rf⟩ := b2 (BlkAt.keep HR8.out hb9)
     have HB9 := Lib.hid (below_more HB8.out hb9)
     clear hb9 HB8
     go_wp2_with fail
     refine bodyPost_ret (v := .tuple #[.agg #[.string ta, .string tb], .int .i64 3]) (by simp [results, Tryz.results39, go_sem, r0, r1]) rfl ⟨bel_set (bel_set HB9.out (Nat.le_succ _) _) (Nat.le_succ _) _, ?_⟩
     rw [HSG.out]
     exact ⟨⟨_, _, rfl⟩, by decide⟩
 · have hs1 := HSIG.out
   rw [if_pos hd] at hs1
   have hdb : (dq == 0) = false := beq_eq_false_iff_ne.2 hd
   have HSG := Lib.hid hs1
   have HD := Lib.hid hd
   clear HSIG hs1 hd
   go_wp2_with fail
   refine bodyPost_ret (v := .tuple #[.agg #[.string ta, .string tb], .int .i64 dq]) (by simp [results, Tryz.results39, go_sem, r0, r1]) rfl ⟨bel_set (bel_set HB8.out (Nat.le_succ _) _) (Nat.le_succ _) _, ?_⟩
   rw [HSG.out]
   exact ⟨⟨_, _, rfl⟩, HD.out⟩
end
end Go.Proofs.YtmggmpigpiaagaaGreatDoor
