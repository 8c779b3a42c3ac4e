/-
  quote.item: the rune that stands, or is said, at a place of a quoted string.
  quote.Read: the string that begins at a place of a text.
-/
import Derived.Test.YtfdecbfcddkoiaaGreatDoorQuoteA
import Derived.Test.YtfdecbfcddkoiaaGreatDoorUtfN
import Derived.Test.YtfdecbfcddkoiaaGreatDoorLexP
import Derived.Test.YtfdecbfcddkoiaaGreatDoorBuildA
namespace Go.Proofs.YtfdecbfcddkoiaaGreatDoor
section
open Go.RowKit

/-- A function held against nil. -/
theorem eql_func_nil (w : World) (f : Fn) (x y : Array Value) : (binOp .eql 72 (.func f x y) .nilFunc).run Tryz.prog w = .ok (.bool false) w := by kernel_rfl
theorem eql_nil_nil (w : World) : (binOp .eql 72 .nilFunc .nilFunc).run Tryz.prog w = .ok (.bool true) w := by kernel_rfl
theorem ne92 {c : UInt8} (h : c.toNat = 92) : ((c.toNat : Int) != 92) = false := by rw [h]; rfl
theorem lt32 {c : UInt8} (h : c.toNat = 92) : decide ((c.toNat : Int) < 32) = false := by rw [h]; rfl
set_option maxRecDepth 100000 in
set_option maxHeartbeats 1000000 in
theorem item_low (s : ByteArray) (a : Nat) (w : World) (ha : a < s.size) (h : s[a].toNat < 32) :
    Calls Tryz.prog 80 #[.string s, .int .i64 a] w fun e w' => e = .returned (.tuple #[.int .i64 0, .int .i64 0, .int .i64 3]) ∧ Below w.heap.size w w' := by
  go_enter Tryz.func80, Tryz.ntmps80
  go_wp2_with fail
  go_ret3
  exact ⟨rfl, Below.refl _ _⟩
set_option maxRecDepth 100000 in
set_option maxHeartbeats 1000000 in
theorem item_plain (s : ByteArray) (a : Nat) (w : World) (hs : s.size ≤ 281474976710656) (ha : a < s.size) (h : ¬ s[a].toNat < 32) (h2 : s[a].toNat ≠ 92) (r1 r2 r3 : Int) (hr : Hid ((if (nextP (s.data.toList.drop a)).2.2 ≠ 0 then (0, 0, (nextP (s.data.toList.drop a)).2.2) else ((nextP (s.data.toList.drop a)).1, (a : Int) + (nextP (s.data.toList.drop a)).2.1, 0)) = (r1, r2, r3))) :
    Calls Tryz.prog 80 #[.string s, .int .i64 a] w fun e w' => e = .returned (.tuple #[.int .i64 r1, .int .i64 r2, .int .i64 r3]) ∧ Below w.heap.size w w' := by
  obtain ⟨x, y, z, hn⟩ : ∃ x y z, nextP (s.data.toList.drop a) = (x, y, z) := ⟨_, _, _, rfl⟩
  have hsz := next_size (s.data.toList.drop a)
  have HC := Lib.hid (fun W => utfNext_in s a W hs ha x y z hn)
  have h0 := hr.out
  rw [hn] at h0 hsz
  simp only [List.length_drop, size_len] at hsz
  have hb : ((s[a].toNat : Int) != 92) = true := by rw [bne_iff_ne]; omega
  have hl : decide ((s[a].toNat : Int) < 32) = false := by simp; omega
  clear hr hn h h2
  by_cases hz : z ≠ 0
  · simp only [if_pos hz, Prod.mk.injEq] at h0
    obtain ⟨rfl, rfl, rfl⟩ := h0
    have hzb : (z != 0) = true := by rw [bne_iff_ne]; exact hz
    clear hz hsz
    go_enter Tryz.func80, Tryz.ntmps80
    go_wp2_with fail
    refine (HC.out _).mono ?_
    rintro e w2 ⟨rfl, rfl⟩
    go_wp2_with fail
    go_ret3
    exact ⟨rfl, Below.refl _ _⟩
  · simp only [if_neg hz, Prod.mk.injEq] at h0
    obtain ⟨rfl, rfl, rfl⟩ := h0
    have hz0 : z = 0 := by simpa using hz
    obtain ⟨s1, s2⟩ := hsz hz0
    subst hz0
    clear hz hsz
    have s3 : y ≤ 281474976710656 := by omega
    have s4 : 0 ≤ y := by omega
    clear s1 s2
    go_enter Tryz.func80, Tryz.ntmps80
    go_wp2_with fail
    refine (HC.out _).mono ?_
    rintro e w2 ⟨rfl, rfl⟩
    go_wp2_with fail
    go_ret3
    exact ⟨rfl, Below.refl _ _⟩
set_option maxRecDepth 100000 in
set_option maxHeartbeats 1000000 in
theorem item_end (s : ByteArray) (a : Nat) (w : World) (hs : s.size ≤ 281474976710656) (ha : a < s.size) (h : s[a].toNat = 92) (h2 : s.size ≤ a + 1) :
    Calls Tryz.prog 80 #[.string s, .int .i64 a] w fun e w' => e = .returned (.tuple #[.int .i64 0, .int .i64 0, .int .i64 4]) ∧ Below w.heap.size w w' := by
  have h3 := ne92 h
  have h4 := lt32 h
  have h5 : ((a : Int) + 1 == (s.size : Int)) = true := by rw [beq_iff_eq]; omega
  clear h
  go_enter Tryz.func80, Tryz.ntmps80
  go_wp2_with fail
  go_ret3
  exact ⟨rfl, Below.refl _ _⟩
set_option maxRecDepth 100000 in
set_option maxHeartbeats 1000000 in
theorem item_stands (s : ByteArray) (a : Nat) (w : World) (hs : s.size ≤ 281474976710656) (ha : a < s.size) (h : s[a].toNat = 92) (h2 : a + 1 < s.size) (v : Int) (HD : Hid (∀ W, Calls Tryz.prog 98 #[.int .u8 (s[a + 1].toNat : Int)] W (StandsPost v W))) :
    Calls Tryz.prog 80 #[.string s, .int .i64 a] w fun e w' => e = .returned (.tuple #[.int .i64 v, .int .i64 ((a : Int) + 2), .int .i64 0]) ∧ Below w.heap.size w w' := by
  have h3 := ne92 h
  have h4 := lt32 h
  have h5 : ((a : Int) + 1 == (s.size : Int)) = false := beq_eq_false_iff_ne.2 (by omega)
  clear h
  have hfn := eql_func_nil
  go_enter Tryz.func80, Tryz.ntmps80
  go_wp2_with fail
  refine (HD.out _).mono ?_
  rintro e w2 ⟨b, rfl, hc, hb⟩
  go_wp2_with fail
  refine (standsRun_any s _ v b _ hc).mono ?_
  rintro e w3 ⟨rfl, rfl⟩
  go_wp2_with fail
  go_ret3
  exact ⟨rfl, hb⟩
set_option maxRecDepth 100000 in
set_option maxHeartbeats 1000000 in
theorem item_nil (s : ByteArray) (a : Nat) (w : World) (hs : s.size ≤ 281474976710656) (ha : a < s.size) (h : s[a].toNat = 92) (h2 : a + 1 < s.size) (HD : Hid (∀ W, Calls Tryz.prog 98 #[.int .u8 (s[a + 1].toNat : Int)] W fun e w' => e = .returned .nilFunc ∧ W = w')) :
    Calls Tryz.prog 80 #[.string s, .int .i64 a] w fun e w' => e = .returned (.tuple #[.int .i64 0, .int .i64 0, .int .i64 3]) ∧ Below w.heap.size w w' := by
  have h3 := ne92 h
  have h4 := lt32 h
  have h5 : ((a : Int) + 1 == (s.size : Int)) = false := beq_eq_false_iff_ne.2 (by omega)
  clear h
  have hfn := eql_nil_nil
  go_enter Tryz.func80, Tryz.ntmps80
  go_wp2_with fail
  refine (HD.out _).mono ?_
  rintro e w2 ⟨rfl, rfl⟩
  go_wp2_with fail
  go_ret3
  exact ⟨rfl, Below.refl _ _⟩
set_option maxRecDepth 100000 in
set_option maxHeartbeats 1000000 in
theorem item_coded (s : ByteArray) (a : Nat) (w : World) (hs : s.size ≤ 281474976710656) (ha : a < s.size) (h : s[a].toNat = 92) (h2 : a + 1 < s.size) (hu : s[a + 1].toNat = 117) (r1 r2 r3 : Int) (hr : Hid (codedR (a + 2) (s.data.toList.drop (a + 2)) = (r1, r2, r3))) :
    Calls Tryz.prog 80 #[.string s, .int .i64 a] w fun e w' => e = .returned (.tuple #[.int .i64 r1, .int .i64 r2, .int .i64 r3]) ∧ Below w.heap.size w w' := by
  have h3 := ne92 h
  have h4 := lt32 h
  have h5 : ((a : Int) + 1 == (s.size : Int)) = false := beq_eq_false_iff_ne.2 (by omega)
  have hdec : ∀ W, Calls Tryz.prog 98 #[.int .u8 (s[a + 1].toNat : Int)] W fun e w' => e = .returned (.func (.func 113) #[] #[]) ∧ W = w' := by
    rw [hu]; exact decoder_u
  have HD := Lib.hid hdec
  have HC := Lib.hid (fun W => coded_any s (a + 2) W hs (by omega) r1 r2 r3 hr)
  clear h hu hdec hr
  have hfn := eql_func_nil
  go_enter Tryz.func80, Tryz.ntmps80
  go_wp2_with fail
  refine (HD.out _).mono ?_
  rintro e w2 ⟨rfl, rfl⟩
  go_wp2_with fail
  refine (HC.out _).mono ?_
  rintro e w3 ⟨rfl, hb⟩
  go_wp2_with fail
  go_ret3
  exact ⟨rfl, hb⟩
theorem escV_of {c : UInt8} {n : Nat} (h : c.toNat = n) : escV c = if n = 34 ∨ n = 92 ∨ n = 47 then (n : Int) else if n = 98 then 8 else if n = 102 then 12 else if n = 110 then 10 else if n = 114 then 13 else if n = 116 then 9 else -1 := by unfold escV; rw [h]
theorem item_any (s : ByteArray) (a : Nat) (w : World) (hs : s.size ≤ 281474976710656) (ha : a < s.size) (r1 r2 r3 : Int) (hr : Hid (resP a (itemP (s.data.toList.drop a)) = (r1, r2, r3))) :
    Calls Tryz.prog 80 #[.string s, .int .i64 a] w fun e w' => e = .returned (.tuple #[.int .i64 r1, .int .i64 r2, .int .i64 r3]) ∧ Below w.heap.size w w' := by
  have h := hr.out
  have hdr := drop_at ha
  rw [hdr, itemP] at h
  by_cases h1 : s[a].toNat < 32
  · rw [if_pos h1] at h
    obtain ⟨rfl, rfl, rfl⟩ := resP_bad (by decide) h
    exact item_low s a w ha h1
  · rw [if_neg h1] at h
    by_cases h2 : s[a].toNat ≠ 92
    · rw [if_pos h2, ← hdr] at h
      refine item_plain s a w hs ha h1 h2 r1 r2 r3 ?_
      have hsz := next_size (s.data.toList.drop a)
      show _ = _
      rw [← h]
      unfold resP
      by_cases hz : (nextP (s.data.toList.drop a)).2.2 ≠ 0
      · simp only [if_pos hz]
      · have hz0 : (nextP (s.data.toList.drop a)).2.2 = 0 := by simpa using hz
        have := (hsz hz0).1
        simp only [if_neg hz, ne_eq, not_true_eq_false, if_false, Prod.mk.injEq, true_and, and_true]
        omega
    · rw [if_neg h2] at h
      have h92 : s[a].toNat = 92 := by simpa using h2
      by_cases h3 : a + 1 < s.size
      · have hdr2 := drop_at h3
        rw [hdr2, escP] at h
        by_cases hu : s[a + 1].toNat = 117
        · rw [if_pos hu] at h
          refine item_coded s a w hs ha h92 h3 hu r1 r2 r3 ?_
          show _ = _
          rw [← h]
          unfold codedR resP
          by_cases hz : (codedP (s.data.toList.drop (a + 1 + 1))).2.2 ≠ 0
          · simp only [if_pos hz]
          · simp only [if_neg hz, ne_eq, not_true_eq_false, if_false, Prod.mk.injEq, true_and, and_true]
            show ((a + 2 : Nat) : Int) + ((codedP (s.data.toList.drop (a + 1 + 1))).2.1 : Int) = _
            omega
        · rw [if_neg hu] at h
          by_cases hv : escV s[a + 1] < 0
          · rw [if_pos hv] at h
            obtain ⟨rfl, rfl, rfl⟩ := resP_bad (by decide) h
            refine item_nil s a w hs ha h92 h3 (fun W => decoder_nil _ W ?_ ?_ ?_ ?_ ?_ ?_ ?_ ?_ ?_)
            all_goals (intro hc; first | exact hu (by omega) | (have := escV_of (n := _) (c := s[a + 1]) (by first | exact (show s[a + 1].toNat = 34 by omega) | exact (show s[a + 1].toNat = 92 by omega) | exact (show s[a + 1].toNat = 47 by omega) | exact (show s[a + 1].toNat = 98 by omega) | exact (show s[a + 1].toNat = 102 by omega) | exact (show s[a + 1].toNat = 110 by omega) | exact (show s[a + 1].toNat = 114 by omega) | exact (show s[a + 1].toNat = 116 by omega)); rw [this] at hv; revert hv; decide))
          · rw [if_neg hv] at h
            simp only [ne_eq, not_true_eq_false, if_false] at h
            unfold resP at h
            simp only [ne_eq, not_true_eq_false, if_false, Prod.mk.injEq] at h
            obtain ⟨rfl, rfl, rfl⟩ := h
            have key : ∀ W, Calls Tryz.prog 98 #[.int .u8 (s[a + 1].toNat : Int)] W (StandsPost (escV s[a + 1]) W) := by
              intro W
              have hall : s[a + 1].toNat = 34 ∨ s[a + 1].toNat = 92 ∨ s[a + 1].toNat = 47 ∨ s[a + 1].toNat = 98 ∨ s[a + 1].toNat = 102 ∨ s[a + 1].toNat = 110 ∨ s[a + 1].toNat = 114 ∨ s[a + 1].toNat = 116 := by
                unfold escV at hv
                omega
              rcases hall with hc | hc | hc | hc | hc | hc | hc | hc
              · rw [escV_of hc, hc]; exact decoder_34 W
              · rw [escV_of hc, hc]; exact decoder_92 W
              · rw [escV_of hc, hc]; exact decoder_47 W
              · rw [escV_of hc, hc]; exact decoder_b W
              · rw [escV_of hc, hc]; exact decoder_f W
              · rw [escV_of hc, hc]; exact decoder_n W
              · rw [escV_of hc, hc]; exact decoder_r W
              · rw [escV_of hc, hc]; exact decoder_t W
            exact item_stands s a w hs ha h92 h3 _ key
      · rw [drop_none (by omega)] at h
        have h' : resP a (0, 0, 4) = (r1, r2, r3) := h
        obtain ⟨rfl, rfl, rfl⟩ := resP_bad (by decide) h'
        exact item_end s a w hs ha h92 (by omega)
end

section
open Go.RowKit

/-- The answer at a place: the text and the place behind it; or the error. -/
def strR (q : Nat) (x : List UInt8 × Nat × Int) : List UInt8 × Int × Int := if x.2.2 ≠ 0 then ([], 0, x.2.2) else (x.1, (q : Int) + x.2.1, 0)
theorem strR_bad {q : Nat} {e : Int} {t : List UInt8} {r2 r3 : Int} (he : e ≠ 0) (h : strR q ([], 0, e) = (t, r2, r3)) : t = [] ∧ r2 = 0 ∧ r3 = e := by
  unfold strR at h
  rw [if_pos he] at h
  simp only [Prod.mk.injEq] at h
  exact ⟨h.1.symm, h.2.1.symm, h.2.2.symm⟩
theorem strR_T (q k : Nat) (x : List UInt8 × Nat × Int) : strR q (strT x k) = strR (q + k) x := by
  unfold strR strT
  by_cases h : x.2.2 ≠ 0
  · simp only [if_pos h]
  · simp only [if_neg h, ne_eq, not_true_eq_false, if_false, Prod.mk.injEq, true_and, and_true]
    omega
theorem retT {t t' : ByteArray} {b b' c c' : Int} (h1 : t = t') (h2 : b = b') (h3 : c = c') : Ending.returned (.tuple #[.string t, .int .i64 b, .int .i64 c]) = .returned (.tuple #[.string t', .int .i64 b', .int .i64 c']) := by rw [h1, h2, h3]
set_option maxRecDepth 100000 in
set_option maxHeartbeats 4000000 in
theorem quoteRead_any (s : ByteArray) (a : Nat) (w : World) (hs : s.size ≤ 281474976710656) (ha : a < s.size) (hq : s[a].toNat = 34) (t : List UInt8) (r2 r3 : Int) (hr : Hid (strR (a + 1) (strQ (s.data.toList.drop (a + 1)) []) = (t, r2, r3))) :
    Calls Tryz.prog 70 #[.string s, .int .i64 a] w fun e w' => e = .returned (.tuple #[.string ⟨t.toArray⟩, .int .i64 r2, .int .i64 r3]) ∧ Below w.heap.size w w' := by
  have h1 : ((s[a].toNat : Int) != 34) = false := by rw [hq]; rfl
  have hlen : ((a : Int) == (s.size : Int)) = false := beq_eq_false_iff_ne.2 (by omega)
  have hlt : ¬ (s.size : Int) < (a : Int) := by omega
  have hng : decide ((a : Int) < 0) = false := by simp
  clear hq
  go_enter Tryz.func70, Tryz.ntmps70
  go_wp2_with fail
  have hI : Bld w.heap.size w.heap.size [] (w.alloc (.cells #[.pointer none, .slice none 0 0] 116)) := Lib.IsBuilderF.of (Lib.fresh_isBuilder 116 5 w)
  have hB : Below w.heap.size w (w.alloc (.cells #[.pointer none, .slice none 0 0] 116)) := bel_alloc (Below.refl _ _) _
  go_loopw [1] (fun p wr => ∃ (q : Nat) (out : List UInt8), a + 1 ≤ q ∧ q ≤ s.size ∧ p = .int .i64 q ∧ out.length ≤ 4096 ∧ Hid (strR q (strQ (s.data.toList.drop q) out) = (t, r2, r3)) ∧ Bld w.heap.size w.heap.size out wr ∧ Below w.heap.size w wr) (fun p _ => s.size - (intOf p).toNat)
  case atStart => exact ⟨a + 1, [], by omega, by omega, by go_num, by simp, hr, hI, hB⟩
  case round =>
    obtain ⟨q, out, q1, q2, rfl, ho, HQ, hIr, hBr⟩ := hrel
    have hsz := hBr.size
    clear hI hB
    by_cases hqs : q < s.size
    · have hst := HQ.out
      have hdr := drop_at hqs
      rw [hdr, strQ_step] at hst
      by_cases hc : s[q].toNat = 34
      · rw [if_pos hc] at hst
        unfold strR at hst
        simp only [ne_eq, not_true_eq_false, if_false, Prod.mk.injEq] at hst
        obtain ⟨rfl, rfl, rfl⟩ := hst
        have hcb : ((s[q].toNat : Int) == 34) = true := by rw [hc]; rfl
        clear hc hdr HQ
        go_wp2_with fail
        refine (Tryz.Builder_String_any_k _ _ _ _ hIr (by omega)).mono ?_
        rintro e w5 ⟨rfl, -, hb5, -⟩
        go_wp2_with fail
        go_ret3
        exact ⟨rfl, hBr.trans hb5⟩
      · rw [if_neg hc, ← hdr] at hst
        have hcb : ((s[q].toNat : Int) == 34) = false := beq_eq_false_iff_ne.2 (by omega)
        obtain ⟨x, k, z, hi⟩ : ∃ x k z, itemP (s.data.toList.drop q) = (x, k, z) := ⟨_, _, _, rfl⟩
        have hok := itemP_ok (s.data.toList.drop q)
        rw [hi] at hst hok
        simp only [List.length_drop, size_len] at hst hok
        clear HQ hc hdr
        by_cases hz : z ≠ 0
        · rw [if_pos hz] at hst
          obtain ⟨rfl, rfl, rfl⟩ := strR_bad hz hst
          have HC := Lib.hid (fun W => item_any s q W hs hqs 0 0 r3 (show resP q (itemP (s.data.toList.drop q)) = _ by rw [hi, resP, if_pos hz]))
          have hzb : (r3 != 0) = true := by rw [bne_iff_ne]; exact hz
          clear hz hi hok hst
          go_wp2_with fail
          refine (HC.out _).mono ?_
          rintro e w2 ⟨rfl, hb2⟩
          go_wp2_with fail
          go_ret3
          exact ⟨rfl, hBr.trans (hb2.mono hsz)⟩
        · have hz0 : z = 0 := by simpa using hz
          subst hz0
          obtain ⟨hrune, k1, k2⟩ := hok rfl
          rw [if_neg hz] at hst
          have HC := Lib.hid (fun W => item_any s q W hs hqs x ((q + k : Nat) : Int) 0 (show resP q (itemP (s.data.toList.drop q)) = _ by rw [hi, resP, if_neg (by simp)]; simp))
          have hel := encP_len x
          obtain ⟨tb, htb⟩ : ∃ tb : ByteArray, tb = ⟨(encP x).toArray⟩ := ⟨_, rfl⟩
          have htl : tb.data.toList = encP x := by rw [htb]
          have htz : tb.size = (encP x).length := by rw [← size_len, htl]
          have HP := Lib.hid (fun W => utfPut_any x W hrune tb htb)
          have HT := Lib.hid htl
          rw [← htz] at hel hst
          clear hz hi hok hrune htb htl htz
          by_cases hlong : 4096 < out.length + tb.size
          · rw [if_pos hlong] at hst
            obtain ⟨rfl, rfl, rfl⟩ := strR_bad (by decide) hst
            clear hst
            go_wp2_with fail
            refine (HC.out _).mono ?_
            rintro e w2 ⟨rfl, hb2⟩
            have hI2 : Bld w.heap.size w.heap.size out w2 := hIr.keep hb2
            go_wp2_with fail
            refine (HP.out _).mono ?_
            rintro e w3 ⟨rfl, rfl⟩
            go_wp2_with fail
            refine (bl _ _ _ _ hI2).mono ?_
            rintro e w3 ⟨rfl, rfl⟩
            go_wp2_with fail
            go_ret3
            exact ⟨rfl, hBr.trans (hb2.mono hsz)⟩
          · rw [if_neg hlong, strR_T, List.drop_drop] at hst
            have HST := Lib.hid hst
            clear hst
            have hl1 : out.length + tb.size ≤ 4096 := by omega
            clear hlong
            go_wp2_with fail
            refine (HC.out _).mono ?_
            rintro e w2 ⟨rfl, hb2⟩
            have hI2 : Bld w.heap.size w.heap.size out w2 := hIr.keep hb2
            have hsz2 := hb2.size
            go_wp2_with fail
            refine (HP.out _).mono ?_
            rintro e w3 ⟨rfl, rfl⟩
            go_wp2_with fail
            refine (bl _ _ _ _ hI2).mono ?_
            rintro e w3 ⟨rfl, rfl⟩
            go_wp2_with fail
            refine (ws _ _ _ tb _ hI2 (by omega) (by omega)).mono ?_
            rintro e w4 ⟨rfl, hI4, hb4, -⟩
            go_wp2_with fail
            refine ⟨⟨q + k, out ++ tb.data.toList, by omega, by omega, rfl, by rw [List.length_append, size_len]; omega, ?_, hI4, (hBr.trans (hb2.mono hsz)).trans hb4⟩, by simp [intOf]; omega⟩
            show _ = _
            rw [HT.out]
            exact HST.out
    · have hst := HQ.out
      rw [drop_none (by omega), strQ_nil] at hst
      obtain ⟨rfl, rfl, rfl⟩ := strR_bad (by decide) hst
      clear hst HQ
      go_wp2_with fail
      go_ret3
      exact ⟨rfl, hBr⟩
end
end Go.Proofs.YtfdecbfcddkoiaaGreatDoor
