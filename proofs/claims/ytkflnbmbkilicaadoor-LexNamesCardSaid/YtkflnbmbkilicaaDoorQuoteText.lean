/-
  quote.Read: the string that begins at a place of a text.
-/
import Derived.Test.YtkflnbmbkilicaaDoorQuoteItem2
import Derived.Test.YtkflnbmbkilicaaDoorUtfPut
import Derived.Test.YtkflnbmbkilicaaDoorLexMore
import Derived.Test.YtkflnbmbkilicaaDoorBld
namespace Go.Proofs.YtkflnbmbkilicaaDoor
open Go.RowKit

/-- The answer at a place: the text and the place behind it; or the error. -/
def strR (q : Nat) (x : List UInt8 × Nat × Int) : List UInt8 × Int × Int := if x.2.2 ≠ 0 then ([], 0, x.2.2) else (x.1, (q : Int) + x.2.1, 0)
theorem strR_bad {q : Nat} {e : Int} {t : List UInt8} {r2 r3 : Int} (he : e ≠ 0) (h : strR q ([], 0, e) = (t, r2, r3)) : t = [] ∧ r2 = 0 ∧ r3 = e := by
  unfold strR at h
  rw [if_pos he] at h
  simp only [Prod.mk.injEq] at h
  exact ⟨h.1.symm, h.2.1.symm, h.2.2.symm⟩
theorem strR_T (q k : Nat) (x : List UInt8 × Nat × Int) : strR q (strT x k) = strR (q + k) x := by
  unfold strR strT
  by_cases h : x.2.2 ≠ 0
  · simp only [if_pos h]
  · simp only [if_neg h, ne_eq, not_true_eq_false, if_false, Prod.mk.injEq, true_and, and_true]
    omega
theorem retT {t t' : ByteArray} {b b' c c' : Int} (h1 : t = t') (h2 : b = b') (h3 : c = c') : Ending.returned (.tuple #[.string t, .int .i64 b, .int .i64 c]) = .returned (.tuple #[.string t', .int .i64 b', .int .i64 c']) := by rw [h1, h2, h3]
set_option maxRecDepth 100000 in
set_option maxHeartbeats 4000000 in
theorem quoteRead_any (s : ByteArray) (a : Nat) (w : World) (hs : s.size ≤ 281474976710656) (ha : a < s.size) (hq : s[a].toNat = 34) (t : List UInt8) (r2 r3 : Int) (hr : Hid (strR (a + 1) (strQ (s.data.toList.drop (a + 1)) []) = (t, r2, r3))) :
    Calls Tryd.prog 52 #[.string s, .int .i64 a] w fun e w' => e = .returned (.tuple #[.string ⟨t.toArray⟩, .int .i64 r2, .int .i64 r3]) ∧ Below w.heap.size w w' := by
  have h1 : ((s[a].toNat : Int) != 34) = false := by rw [hq]; rfl
  have hlen : ((a : Int) == (s.size : Int)) = false := beq_eq_false_iff_ne.2 (by omega)
  have hlt : ¬ (s.size : Int) < (a : Int) := by omega
  have hng : decide ((a : Int) < 0) = false := by simp
  clear hq
  go_enter Tryd.func52, Tryd.ntmps52
  go_wp2_with fail
  have hI : Bld w.heap.size w.heap.size [] (w.alloc (.cells #[.pointer none, .slice none 0 0] 98)) := Lib.IsBuilderF.of (Lib.fresh_isBuilder 98 5 w)
  have hB : Below w.heap.size w (w.alloc (.cells #[.pointer none, .slice none 0 0] 98)) := bel_alloc (Below.refl _ _) _
  go_loopw [1] (fun p wr => ∃ (q : Nat) (out : List UInt8), a + 1 ≤ q ∧ q ≤ s.size ∧ p = .int .i64 q ∧ out.length ≤ 4096 ∧ Hid (strR q (strQ (s.data.toList.drop q) out) = (t, r2, r3)) ∧ Bld w.heap.size w.heap.size out wr ∧ Below w.heap.size w wr) (fun p _ => s.size - (intOf p).toNat)
  case atStart => exact ⟨a + 1, [], by omega, by omega, by go_num, by simp, hr, hI, hB⟩
  case round =>
    obtain ⟨q, out, q1, q2, rfl, ho, HQ, hIr, hBr⟩ := hrel
    have hsz := hBr.size
    clear hI hB
    by_cases hqs : q < s.size
    · have hst := HQ.out
      have hdr := drop_at hqs
      rw [hdr, strQ_step] at hst
      by_cases hc : s[q].toNat = 34
      · rw [if_pos hc] at hst
        unfold strR at hst
        simp only [ne_eq, not_true_eq_false, if_false, Prod.mk.injEq] at hst
        obtain ⟨rfl, rfl, rfl⟩ := hst
        have hcb : ((s[q].toNat : Int) == 34) = true := by rw [hc]; rfl
        clear hc hdr HQ
        go_wp2_with fail
        refine (Tryd.Builder_String_any_k _ _ _ _ hIr (by omega)).mono ?_
        rintro e w5 ⟨rfl, -, hb5, -⟩
        go_wp2_with fail
        go_ret3
        exact ⟨rfl, hBr.trans hb5⟩
      · rw [if_neg hc, ← hdr] at hst
        have hcb : ((s[q].toNat : Int) == 34) = false := beq_eq_false_iff_ne.2 (by omega)
        obtain ⟨x, k, z, hi⟩ : ∃ x k z, itemP (s.data.toList.drop q) = (x, k, z) := ⟨_, _, _, rfl⟩
        have hok := itemP_ok (s.data.toList.drop q)
        rw [hi] at hst hok
        simp only [List.length_drop, size_len] at hst hok
        clear HQ hc hdr
        by_cases hz : z ≠ 0
        · rw [if_pos hz] at hst
          obtain ⟨rfl, rfl, rfl⟩ := strR_bad hz hst
          have HC := Lib.hid (fun W => item_any s q W hs hqs 0 0 r3 (show resP q (itemP (s.data.toList.drop q)) = _ by rw [hi, resP, if_pos hz]))
          have hzb : (r3 != 0) = true := by rw [bne_iff_ne]; exact hz
          clear hz hi hok hst
          go_wp2_with fail
          refine (HC.out _).mono ?_
          rintro e w2 ⟨rfl, hb2⟩
          go_wp2_with fail
          go_ret3
          exact ⟨rfl, hBr.trans (hb2.mono hsz)⟩
        · have hz0 : z = 0 := by simpa using hz
          subst hz0
          obtain ⟨hrune, k1, k2⟩ := hok rfl
          rw [if_neg hz] at hst
          have HC := Lib.hid (fun W => item_any s q W hs hqs x ((q + k : Nat) : Int) 0 (show resP q (itemP (s.data.toList.drop q)) = _ by rw [hi, resP, if_neg (by simp)]; simp))
          have hel := encP_len x
          obtain ⟨tb, htb⟩ : ∃ tb : ByteArray, tb = ⟨(encP x).toArray⟩ := ⟨_, rfl⟩
          have htl : tb.data.toList = encP x := by rw [htb]
          have htz : tb.size = (encP x).length := by rw [← size_len, htl]
          have HP := Lib.hid (fun W => utfPut_any x W hrune tb htb)
          have HT := Lib.hid htl
          rw [← htz] at hel hst
          clear hz hi hok hrune htb htl htz
          by_cases hlong : 4096 < out.length + tb.size
          · rw [if_pos hlong] at hst
            obtain ⟨rfl, rfl, rfl⟩ := strR_bad (by decide) hst
            clear hst
            go_wp2_with fail
            refine (HC.out _).mono ?_
            rintro e w2 ⟨rfl, hb2⟩
            have hI2 : Bld w.heap.size w.heap.size out w2 := hIr.keep hb2
            go_wp2_with fail
            refine (HP.out _).mono ?_
            rintro e w3 ⟨rfl, rfl⟩
            go_wp2_with fail
            refine (bl _ _ _ _ hI2).mono ?_
            rintro e w3 ⟨rfl, rfl⟩
            go_wp2_with fail
            go_ret3
            exact ⟨rfl, hBr.trans (hb2.mono hsz)⟩
          · rw [if_neg hlong, strR_T, List.drop_drop] at hst
            have HST := Lib.hid hst
            clear hst
            have hl1 : out.length + tb.size ≤ 4096 := by omega
            clear hlong
            go_wp2_with fail
            refine (HC.out _).mono ?_
            rintro e w2 ⟨rfl, hb2⟩
            have hI2 : Bld w.heap.size w.heap.size out w2 := hIr.keep hb2
            have hsz2 := hb2.size
            go_wp2_with fail
            refine (HP.out _).mono ?_
            rintro e w3 ⟨rfl, rfl⟩
            go_wp2_with fail
            refine (bl _ _ _ _ hI2).mono ?_
            rintro e w3 ⟨rfl, rfl⟩
            go_wp2_with fail
            refine (ws _ _ _ tb _ hI2 (by omega) (by omega)).mono ?_
            rintro e w4 ⟨rfl, hI4, hb4, -⟩
            go_wp2_with fail
            refine ⟨⟨q + k, out ++ tb.data.toList, by omega, by omega, rfl, by rw [List.length_append, size_len]; omega, ?_, hI4, (hBr.trans (hb2.mono hsz)).trans hb4⟩, by simp [intOf]; omega⟩
            show _ = _
            rw [HT.out]
            exact HST.out
    · have hst := HQ.out
      rw [drop_none (by omega), strQ_nil] at hst
      obtain ⟨rfl, rfl, rfl⟩ := strR_bad (by decide) hst
      clear hst HQ
      go_wp2_with fail
      go_ret3
      exact ⟨rfl, hBr⟩
end Go.Proofs.YtkflnbmbkilicaaDoor
