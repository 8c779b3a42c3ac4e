/-
  lex: numbers, texts and words.
-/
import Derived.Test.YtkflnbmbkilicaaDoorLexSmall
namespace Go.Proofs.YtkflnbmbkilicaaDoor
open Go.RowKit

set_option maxRecDepth 100000 in
set_option maxHeartbeats 2000000 in
theorem number_any (s : ByteArray) (a : Nat) (w : World) (hs : s.size ≤ 281474976710656) (ha : a ≤ s.size) (henv : NumEnv w) (k x z n : Int) (t : ByteArray) (er : Int) (hr : Hid (resV (tokR a (numP (s.data.toList.drop a))) = (k, x, z, n, t, er))) :
    Calls Tryd.prog 37 #[.string s, .int .i64 a] w fun e w' => e = .returned (.tuple #[.agg #[.int .u8 k, .int .i64 x, .int .i64 z, .int .i64 n, .string t], .int .i64 er]) ∧ Below w.heap.size w w' := by
  have hal : Below w.heap.size w (w.alloc (.cells #[.int .u8 0, .int .i64 0, .int .i64 0, .int .i64 0, .string ⟨#[]⟩] 28)) := bel_alloc (Below.refl _ _) _
  have henv2 := henv.below hal
  obtain ⟨r1, r2, r3, hR⟩ : ∃ r1 r2 r3, readP s.data.toList a = (r1, r2, r3) := ⟨_, _, _, rfl⟩
  have HC := Lib.hid (Read_in s a _ hs ha henv2 r1 r2 r3 hR)
  have h := hr.out
  rw [readP_in (by rw [size_len]; exact ha)] at hR
  unfold numP at h
  have hrun : Nm.run s.data.toList a = (s.data.toList.drop a).takeWhile Nm.isN := rfl
  rw [hrun] at hR
  clear hrun hr hal
  by_cases h1 : Nm.form ((s.data.toList.drop a).takeWhile Nm.isN) = false
  · rw [if_pos h1] at h hR
    obtain ⟨rfl, rfl, rfl, rfl, rfl, rfl⟩ := resV_bad (by decide) h
    simp only [Prod.mk.injEq] at hR
    obtain ⟨rfl, rfl, rfl⟩ := hR
    clear h h1 henv henv2
    go_enter Tryd.func37, Tryd.ntmps37
    go_wp2_with fail
    refine HC.out.mono ?_
    rintro e w2 ⟨rfl, hb2⟩
    have hsz : w.heap.size < w2.heap.size := by have := hb2.size; simp at this; omega
    obtain ⟨hc, hf⟩ := bcell hb2
    go_wp2_with fail
    exact bodyPost_ret (v := .tuple #[.agg #[.int .u8 0, .int .i64 0, .int .i64 0, .int .i64 0, .string ⟨#[]⟩], .int .i64 3]) (by simp [results, Tryd.results37, go_sem, hc]) rfl ⟨rfl, bel_set5 (below_more (bel_alloc (Below.refl _ _) _) hb2) (Nat.le_refl _) _ _ _ _ _⟩
  · rw [if_neg h1] at h hR
    by_cases h2 : -9223372036854775808 ≤ Nm.val ((s.data.toList.drop a).takeWhile Nm.isN) ∧ Nm.val ((s.data.toList.drop a).takeWhile Nm.isN) ≤ 9223372036854775807
    · rw [if_pos h2] at h hR
      obtain ⟨rfl, rfl, hz, rfl, rfl, rfl⟩ := resV_ok h
      simp only [Prod.mk.injEq] at hR
      obtain ⟨rfl, e2, rfl⟩ := hR
      rw [← hz] at e2
      obtain ⟨n, hn⟩ : ∃ n : Int, Nm.val ((s.data.toList.drop a).takeWhile Nm.isN) = n := ⟨_, rfl⟩
      rw [hn] at HC ⊢
      subst e2
      clear h h1 h2 hz hn henv henv2
      go_enter Tryd.func37, Tryd.ntmps37
      go_wp2_with fail
      refine HC.out.mono ?_
      rintro e w2 ⟨rfl, hb2⟩
      have hsz : w.heap.size < w2.heap.size := by have := hb2.size; simp at this; omega
      obtain ⟨hc, hf⟩ := bcell hb2
      go_wp2_with fail
      exact bodyPost_ret (v := .tuple #[.agg #[.int .u8 9, .int .i64 a, .int .i64 z, .int .i64 n, .string ⟨#[]⟩], .int .i64 0]) (by simp [results, Tryd.results37, go_sem, hc]) rfl ⟨rfl, bel_set5 (below_more (bel_alloc (Below.refl _ _) _) hb2) (Nat.le_refl _) _ _ _ _ _⟩
    · rw [if_neg h2] at h hR
      obtain ⟨rfl, rfl, rfl, rfl, rfl, rfl⟩ := resV_bad (by decide) h
      simp only [Prod.mk.injEq] at hR
      obtain ⟨rfl, rfl, rfl⟩ := hR
      clear h h1 h2 henv henv2
      go_enter Tryd.func37, Tryd.ntmps37
      go_wp2_with fail
      refine HC.out.mono ?_
      rintro e w2 ⟨rfl, hb2⟩
      have hsz : w.heap.size < w2.heap.size := by have := hb2.size; simp at this; omega
      obtain ⟨hc, hf⟩ := bcell hb2
      go_wp2_with fail
      exact bodyPost_ret (v := .tuple #[.agg #[.int .u8 0, .int .i64 0, .int .i64 0, .int .i64 0, .string ⟨#[]⟩], .int .i64 9]) (by simp [results, Tryd.results37, go_sem, hc]) rfl ⟨rfl, bel_set5 (below_more (bel_alloc (Below.refl _ _) _) hb2) (Nat.le_refl _) _ _ _ _ _⟩
set_option maxRecDepth 100000 in
set_option maxHeartbeats 2000000 in
theorem text_lex (s : ByteArray) (a : Nat) (w : World) (hs : s.size ≤ 281474976710656) (ha : a < s.size) (hq : s[a].toNat = 34) (k x z n : Int) (t : ByteArray) (er : Int) (hr : Hid (resV (tokR a (textP (s.data.toList.drop (a + 1)))) = (k, x, z, n, t, er))) :
    Calls Tryd.prog 38 #[.string s, .int .i64 a] w fun e w' => e = .returned (.tuple #[.agg #[.int .u8 k, .int .i64 x, .int .i64 z, .int .i64 n, .string t], .int .i64 er]) ∧ Below w.heap.size w w' := by
  obtain ⟨l, c, e, hR⟩ : ∃ l c e, strQ (s.data.toList.drop (a + 1)) [] = (l, c, e) := ⟨_, _, _, rfl⟩
  have h := hr.out
  rw [textP_eq, hR] at h
  simp only [] at h
  by_cases h1 : e ≠ 0
  · rw [if_pos h1] at h
    obtain ⟨rfl, rfl, rfl, rfl, rfl, rfl⟩ := resV_bad h1 h
    have HC := Lib.hid (fun W => quoteRead_any s a W hs ha hq [] 0 er (show strR (a + 1) (strQ (s.data.toList.drop (a + 1)) []) = _ by rw [hR, strR, if_pos h1]))
    have heb : (er != 0) = true := by rw [bne_iff_ne]; exact h1
    clear h h1 hR hr hq
    go_enter Tryd.func38, Tryd.ntmps38
    go_wp2_with fail
    refine (HC.out _).mono ?_
    rintro e w2 ⟨rfl, hb2⟩
    have hsz : w.heap.size < w2.heap.size := by have := hb2.size; simp at this; omega
    obtain ⟨hc, hf⟩ := bcell hb2
    go_wp2_with fail
    exact bodyPost_ret (v := .tuple #[.agg #[.int .u8 0, .int .i64 0, .int .i64 0, .int .i64 0, .string ⟨#[]⟩], .int .i64 er]) (by simp [results, Tryd.results38, go_sem, hc]) rfl ⟨rfl, bel_set5 (below_more (bel_alloc (Below.refl _ _) _) hb2) (Nat.le_refl _) _ _ _ _ _⟩
  · rw [if_neg h1] at h
    have h0 : e = 0 := by simpa using h1
    subst h0
    obtain ⟨rfl, rfl, hz, rfl, ht, rfl⟩ := resV_ok h
    have HC := Lib.hid (fun W => quoteRead_any s a W hs ha hq l z 0 (show strR (a + 1) (strQ (s.data.toList.drop (a + 1)) []) = _ by rw [hR, strR, if_neg h1, hz]; simp only [Prod.mk.injEq, true_and, and_true]; omega))
    rw [← ht] at HC
    clear h h1 hz hR hr hq ht
    go_enter Tryd.func38, Tryd.ntmps38
    go_wp2_with fail
    refine (HC.out _).mono ?_
    rintro e w2 ⟨rfl, hb2⟩
    have hsz : w.heap.size < w2.heap.size := by have := hb2.size; simp at this; omega
    obtain ⟨hc, hf⟩ := bcell hb2
    go_wp2_with fail
    exact bodyPost_ret (v := .tuple #[.agg #[.int .u8 10, .int .i64 a, .int .i64 z, .int .i64 0, .string t], .int .i64 0]) (by simp [results, Tryd.results38, go_sem, hc]) rfl ⟨rfl, bel_set5 (below_more (bel_alloc (Below.refl _ _) _) hb2) (Nat.le_refl _) _ _ _ _ _⟩
end Go.Proofs.YtkflnbmbkilicaaDoor
