/-
  legateref05.Read: the string that begins at a place of a text, by the document's words.
-/
import Derived.Test.YtfdecbfcddkoiaaGreatDoorRefEscape
namespace Go.Proofs.YtfdecbfcddkoiaaGreatDoor
open Go.RowKit

theorem resP_item {a : Nat} (x : Int × Nat × Int) : resP (a + 1) x = resP a (if x.2.2 ≠ 0 then (0, 0, x.2.2) else (x.1, x.2.1 + 1, 0)) := by
  unfold resP
  by_cases h : x.2.2 ≠ 0
  · simp only [if_pos h]
  · simp only [if_neg h, ne_eq, not_true_eq_false, if_false, Prod.mk.injEq, true_and, and_true]
    omega
theorem next_none (l : List UInt8) (h : (nextP l).2.2 ≠ 0) : (nextP l).2.1 = 0 := by
  match l with
  | [] => rfl
  | c :: l =>
    by_cases h1 : c.toNat < 128
    · rw [next1 _ h1] at h; exact absurd rfl h
    · by_cases h2 : c.toNat < 194 ∨ 244 < c.toNat
      · rw [next_bad _ h1 h2]
      · obtain ⟨n, m, lw, hg, hc⟩ := next_cont c (by omega) (by omega)
        rw [hc] at h ⊢
        rw [contR_err] at h
        unfold contR
        rw [if_neg h]
theorem cat_str (a b : ByteArray) : a ++ b = ⟨(a.data.toList ++ b.data.toList).toArray⟩ := by
  cases a; cases b; simp [ByteArray.ext_iff]
set_option maxRecDepth 100000 in
set_option maxHeartbeats 8000000 in
theorem refText_any (s : ByteArray) (a : Nat) (w : World) (hs : s.size ≤ 281474976710656) (ha : a < s.size) (hq : s[a].toNat = 34) (t : List UInt8) (r2 r3 : Int) (hr : Hid (strR (a + 1) (strQ (s.data.toList.drop (a + 1)) []) = (t, r2, r3))) :
    Calls Tryz.prog 44 #[.string s, .int .i64 a] w fun e w' => e = .returned (.tuple #[.string ⟨t.toArray⟩, .int .i64 r2, .int .i64 r3]) ∧ Below w.heap.size w w' := by
  have h1 : ((s[a].toNat : Int) != 34) = false := by rw [hq]; rfl
  have hlen : ((a : Int) == (s.size : Int)) = false := beq_eq_false_iff_ne.2 (by omega)
  have hlt : ¬ (s.size : Int) < (a : Int) := by omega
  have hng : decide ((a : Int) < 0) = false := by simp
  clear hq
  go_enter Tryz.func44, Tryz.ntmps44
  go_wp2_with fail
  go_loopw [1, 7] (fun p o wr => ∃ (q : Nat) (out : ByteArray), a + 1 ≤ q ∧ q ≤ s.size ∧ p = .int .i64 q ∧ o = .string out ∧ out.size ≤ 4096 ∧ Hid (strR q (strQ (s.data.toList.drop q) out.data.toList) = (t, r2, r3)) ∧ Below w.heap.size w wr) (fun p _ _ => s.size - (intOf p).toNat)
  case atStart => exact ⟨a + 1, ⟨#[]⟩, by omega, by omega, by go_num, rfl, by decide, hr, Below.refl _ _⟩
  case round =>
    obtain ⟨q, out, q1, q2, rfl, rfl, ho, HQ, hBr⟩ := hrel
    have hsz := hBr.size
    by_cases hqs : q < s.size
    · have hst := HQ.out
      have hdr := drop_at hqs
      rw [hdr, strQ_step] at hst
      by_cases hc : s[q].toNat = 34
      · rw [if_pos hc] at hst
        unfold strR at hst
        simp only [ne_eq, not_true_eq_false, if_false, Prod.mk.injEq] at hst
        obtain ⟨rfl, rfl, rfl⟩ := hst
        have hcb : ((s[q].toNat : Int) == 34) = true := by rw [hc]; rfl
        clear hc hdr HQ
        go_wp2_with fail
        go_ret3
        exact ⟨rfl, hBr⟩
      · rw [if_neg hc, ← hdr] at hst
        have hcb : ((s[q].toNat : Int) == 34) = false := beq_eq_false_iff_ne.2 (by omega)
        obtain ⟨x, k, z, hi⟩ : ∃ x k z, itemP (s.data.toList.drop q) = (x, k, z) := ⟨_, _, _, rfl⟩
        have hok := itemP_ok (s.data.toList.drop q)
        rw [hi] at hst hok
        simp only [List.length_drop, size_len] at hst hok
        have hip := hi
        rw [hdr, itemP] at hip
        clear HQ hc
        by_cases hlow : s[q].toNat < 32
        · rw [if_pos hlow] at hip
          simp only [Prod.mk.injEq] at hip
          obtain ⟨rfl, rfl, rfl⟩ := hip
          rw [if_pos (by decide)] at hst
          obtain ⟨rfl, rfl, rfl⟩ := strR_bad (by decide) hst
          have hlb : decide ((s[q].toNat : Int) < 32) = true := by simp; omega
          clear hst hi hok hdr hlow
          go_wp2_with fail
          go_ret3
          exact ⟨rfl, hBr⟩
        · rw [if_neg hlow] at hip
          have hlb : decide ((s[q].toNat : Int) < 32) = false := by simp; omega
          by_cases hz : z ≠ 0
          · rw [if_pos hz] at hst
            obtain ⟨rfl, rfl, rfl⟩ := strR_bad hz hst
            have hzb : (r3 != 0) = true := by rw [bne_iff_ne]; exact hz
            by_cases h92 : s[q].toNat = 92
            · rw [if_neg (by omega)] at hip
              have hcc : ((s[q].toNat : Int) == 92) = true := by rw [h92]; rfl
              have hes : resP (q + 1) (escP (s.data.toList.drop (q + 1))) = (0, 0, r3) := by
                rw [resP_item, hip, resP, if_pos hz]
              have HC := Lib.hid (fun W => refEscape_any s (q + 1) W hs (by omega) 0 0 r3 hes)
              clear hz hi hok hst hip hes h92 hlow hdr
              go_wp2_with fail
              refine (HC.out _).mono ?_
              rintro e w2 ⟨rfl, hb2⟩
              go_wp2_with fail
              go_ret3
              exact ⟨rfl, hBr.trans (hb2.mono hsz)⟩
            · rw [if_pos h92] at hip
              have hcc : ((s[q].toNat : Int) == 92) = false := beq_eq_false_iff_ne.2 (by omega)
              obtain ⟨y1, y2, y3, hy⟩ : ∃ y1 y2 y3, nextP (s.data.toList.drop q) = (y1, y2, y3) := ⟨_, _, _, rfl⟩
              have hysz := next_size (s.data.toList.drop q)
              have hynz := next_none (s.data.toList.drop q)
              rw [← hdr, hy] at hip
              rw [hy] at hynz
              simp only [] at hip hynz
              by_cases hy3 : y3 ≠ 0
              · rw [if_pos hy3] at hip
                simp only [Prod.mk.injEq] at hip
                obtain ⟨-, -, rfl⟩ := hip
                have hy2 := hynz hy3
                subst hy2
                have HC := Lib.hid (fun W => refNext_in s q W hs (by omega) y1 0 y3 hy)
                clear hz hi hok hst hlow hdr h92 hy hysz hynz hy3
                go_wp2_with fail
                refine (HC.out _).mono ?_
                rintro e w2 ⟨rfl, hb2⟩
                go_wp2_with fail
                go_ret3
                exact ⟨rfl, hBr.trans (hb2.mono hsz)⟩
              · rw [if_neg hy3] at hip
                simp only [Prod.mk.injEq] at hip
                exact absurd hip.2.2.symm hz
          · have hz0 : z = 0 := by simpa using hz
            subst hz0
            obtain ⟨hrune, k1, k2⟩ := hok rfl
            rw [if_neg hz] at hst
            have hel := encP_len x
            obtain ⟨tb, htb⟩ : ∃ tb : ByteArray, tb = ⟨(encP x).toArray⟩ := ⟨_, rfl⟩
            have htl : tb.data.toList = encP x := by rw [htb]
            have htz : tb.size = (encP x).length := by rw [← size_len, htl]
            have HP := Lib.hid (fun W => refPut_any x W hrune tb htb)
            have HT := Lib.hid htl
            rw [← htz] at hel hst
            clear hz hok hrune htb htl htz
            by_cases hlong : 4096 < out.size + tb.size
            · rw [if_pos hlong] at hst
              obtain ⟨rfl, rfl, rfl⟩ := strR_bad (by decide) hst
              clear hst
              by_cases h92 : s[q].toNat = 92
              · rw [if_neg (by omega)] at hip
                have hcc : ((s[q].toNat : Int) == 92) = true := by rw [h92]; rfl
                have hes : resP (q + 1) (escP (s.data.toList.drop (q + 1))) = (x, ((q + k : Nat) : Int), 0) := by
                  rw [resP_item, hip, resP, if_neg (by simp)]; simp
                have HC := Lib.hid (fun W => refEscape_any s (q + 1) W hs (by omega) x ((q + k : Nat) : Int) 0 hes)
                clear hi hip hes h92 hlow hdr
                go_wp2_with fail
                refine (HC.out _).mono ?_
                rintro e w2 ⟨rfl, hb2⟩
                go_wp2_with fail
                refine (HP.out _).mono ?_
                rintro e w3 ⟨rfl, hb3⟩
                go_wp2_with fail
                go_ret3
                exact ⟨rfl, below_more (below_more hBr hb2) hb3⟩
              · rw [if_pos h92] at hip
                have hcc : ((s[q].toNat : Int) == 92) = false := beq_eq_false_iff_ne.2 (by omega)
                obtain ⟨y1, y2, y3, hy⟩ : ∃ y1 y2 y3, nextP (s.data.toList.drop q) = (y1, y2, y3) := ⟨_, _, _, rfl⟩
                have hysz := next_size (s.data.toList.drop q)
                rw [← hdr, hy] at hip
                rw [hy] at hysz
                simp only [List.length_drop, size_len] at hip hysz
                by_cases hy3 : y3 ≠ 0
                · rw [if_pos hy3] at hip
                  simp only [Prod.mk.injEq] at hip
                  exact absurd hip.2.2 hy3
                · rw [if_neg hy3] at hip
                  have hy0 : y3 = 0 := by simpa using hy3
                  subst hy0
                  simp only [Prod.mk.injEq, and_true] at hip
                  obtain ⟨rfl, hk⟩ := hip
                  have hy2 := hysz rfl
                  obtain rfl : y2 = (k : Int) := by omega
                  have HC := Lib.hid (fun W => refNext_in s q W hs (by omega) y1 (k : Int) 0 hy)
                  clear hi hk hlow hdr h92 hy hysz hy3 hy2
                  go_wp2_with fail
                  refine (HC.out _).mono ?_
                  rintro e w2 ⟨rfl, hb2⟩
                  go_wp2_with fail
                  refine (HP.out _).mono ?_
                  rintro e w3 ⟨rfl, hb3⟩
                  go_wp2_with fail
                  go_ret3
                  exact ⟨rfl, below_more (below_more hBr hb2) hb3⟩
            · rw [if_neg hlong, strR_T, List.drop_drop] at hst
              have HST := Lib.hid hst
              clear hst
              have hl1 : out.size + tb.size ≤ 4096 := by omega
              have hfin : Hid (strR (q + k) (strQ (s.data.toList.drop (q + k)) (out ++ tb).data.toList) = (t, r2, r3)) := by
                show _ = _
                rw [cat_str]
                show strR (q + k) (strQ (s.data.toList.drop (q + k)) (out.data.toList ++ tb.data.toList)) = _
                rw [HT.out]
                exact HST.out
              have hszc : (out ++ tb).size ≤ 4096 := by rw [ByteArray.size_append]; exact hl1
              clear hlong HST HT
              by_cases h92 : s[q].toNat = 92
              · rw [if_neg (by omega)] at hip
                have hcc : ((s[q].toNat : Int) == 92) = true := by rw [h92]; rfl
                have hes : resP (q + 1) (escP (s.data.toList.drop (q + 1))) = (x, ((q + k : Nat) : Int), 0) := by
                  rw [resP_item, hip, resP, if_neg (by simp)]; simp
                have HC := Lib.hid (fun W => refEscape_any s (q + 1) W hs (by omega) x ((q + k : Nat) : Int) 0 hes)
                clear hi hip hes h92 hlow hdr
                go_wp2_with fail
                refine (HC.out _).mono ?_
                rintro e w2 ⟨rfl, hb2⟩
                go_wp2_with fail
                refine (HP.out _).mono ?_
                rintro e w3 ⟨rfl, hb3⟩
                go_wp2_with fail
                refine ⟨?_, by simp [intOf]; omega⟩
                exact ⟨q + k, out ++ tb, by omega, by omega, rfl, rfl, hszc, hfin, below_more (below_more hBr hb2) hb3⟩
              · rw [if_pos h92] at hip
                have hcc : ((s[q].toNat : Int) == 92) = false := beq_eq_false_iff_ne.2 (by omega)
                obtain ⟨y1, y2, y3, hy⟩ : ∃ y1 y2 y3, nextP (s.data.toList.drop q) = (y1, y2, y3) := ⟨_, _, _, rfl⟩
                have hysz := next_size (s.data.toList.drop q)
                rw [← hdr, hy] at hip
                rw [hy] at hysz
                simp only [List.length_drop, size_len] at hip hysz
                by_cases hy3 : y3 ≠ 0
                · rw [if_pos hy3] at hip
                  simp only [Prod.mk.injEq] at hip
                  exact absurd hip.2.2 hy3
                · rw [if_neg hy3] at hip
                  have hy0 : y3 = 0 := by simpa using hy3
                  subst hy0
                  simp only [Prod.mk.injEq, and_true] at hip
                  obtain ⟨rfl, hk⟩ := hip
                  have hy2 := hysz rfl
                  obtain rfl : y2 = (k : Int) := by omega
                  have HC := Lib.hid (fun W => refNext_in s q W hs (by omega) y1 (k : Int) 0 hy)
                  clear hi hk hlow hdr h92 hy hysz hy3 hy2
                  go_wp2_with fail
                  refine (HC.out _).mono ?_
                  rintro e w2 ⟨rfl, hb2⟩
                  go_wp2_with fail
                  refine (HP.out _).mono ?_
                  rintro e w3 ⟨rfl, hb3⟩
                  go_wp2_with fail
                  refine ⟨?_, by simp [intOf]; omega⟩
                  exact ⟨q + k, out ++ tb, by omega, by omega, by go_num, rfl, hszc, hfin, below_more (below_more hBr hb2) hb3⟩
    · have hst := HQ.out
      rw [drop_none (by omega), strQ_nil] at hst
      obtain ⟨rfl, rfl, rfl⟩ := strR_bad (by decide) hst
      clear hst HQ
      go_wp2_with fail
      go_ret3
      exact ⟨rfl, hBr⟩
end Go.Proofs.YtfdecbfcddkoiaaGreatDoor
