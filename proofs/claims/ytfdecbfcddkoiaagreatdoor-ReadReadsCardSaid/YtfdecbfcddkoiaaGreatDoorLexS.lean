/-
  lex: blanks, words, numbers, texts and signs.
  lex: numbers, texts and words.
  lex.word: the words true and false.
  lex.rules: the readers by their first bytes.
-/
import Derived.Test.YtfdecbfcddkoiaaGreatDoorQuoteB
import Derived.Test.YtfdecbfcddkoiaaGreatDoorLexP
import Derived.Laws.EntriesVeiled
import Derived.Deep.WholeRow
namespace Go.Proofs.YtfdecbfcddkoiaaGreatDoor
section
open Go.RowKit

theorem blanks_yes {c : UInt8} (r : List UInt8) (h : isBlank c = true) : blanks (c :: r) = blanks r + 1 := by
  unfold blanks
  rw [List.takeWhile_cons, if_pos h, List.length_cons]
theorem blank_no {c : UInt8} (h : isBlank c = false) : c.toNat ≠ 32 ∧ c.toNat ≠ 9 ∧ c.toNat ≠ 10 ∧ c.toNat ≠ 13 := by
  simp [isBlank] at h
  omega
theorem beq_u8 {c : UInt8} {k : Nat} (h : c.toNat = k) : ((c.toNat : Int) == (k : Int)) = true := by rw [h]; simp
theorem bne_u8 {c : UInt8} {k : Nat} (h : c.toNat ≠ k) : ((c.toNat : Int) == (k : Int)) = false := beq_eq_false_iff_ne.2 (by omega)
set_option maxRecDepth 100000 in
set_option maxHeartbeats 2000000 in
theorem skip_any (s : ByteArray) (a : Nat) (w : World) (hs : s.size ≤ 281474976710656) (ha : a ≤ s.size) (z : Nat) (hz : Hid (a + blanks (s.data.toList.drop a) = z)) :
    Calls Tryz.prog 40 #[.string s, .int .i64 a] w fun e w' => e = .returned (.int .i64 z) ∧ w = w' := by
  go_enter Tryz.func40, Tryz.ntmps40
  go_wp2_with fail
  go_loop [1] (fun p => ∃ q : Nat, q ≤ s.size ∧ p = .int .i64 q ∧ Hid (q + blanks (s.data.toList.drop q) = z)) (fun p => s.size - (intOf p).toNat)
  case atStart => exact ⟨a, ha, rfl, hz⟩
  case round =>
    obtain ⟨q, hq, rfl, HQ⟩ := hrel
    by_cases hlt : q < s.size
    · have hdr := drop_at hlt
      have hst := HQ.out
      rw [hdr] at hst
      by_cases hb : isBlank s[q] = true
      · rw [blanks_yes _ hb] at hst
        have HST := Lib.hid (show q + 1 + blanks (s.data.toList.drop (q + 1)) = z by omega)
        have hcs := blank_cases hb
        clear hst hdr HQ hb
        rcases hcs with h | h | h | h
        · have b1 : ((s[q].toNat : Int) == 32) = true := beq_u8 h
          clear h
          go_wp2_with fail
          refine ⟨⟨q + 1, by omega, by go_num, HST⟩, by simp [intOf]; omega⟩
        · have b1 : ((s[q].toNat : Int) == 32) = false := bne_u8 (k := 32) (by omega)
          have b2 : ((s[q].toNat : Int) == 9) = true := beq_u8 h
          clear h
          go_wp2_with fail
          refine ⟨⟨q + 1, by omega, by go_num, HST⟩, by simp [intOf]; omega⟩
        · have b1 : ((s[q].toNat : Int) == 32) = false := bne_u8 (k := 32) (by omega)
          have b2 : ((s[q].toNat : Int) == 9) = false := bne_u8 (k := 9) (by omega)
          have b3 : ((s[q].toNat : Int) == 10) = true := beq_u8 h
          clear h
          go_wp2_with fail
          refine ⟨⟨q + 1, by omega, by go_num, HST⟩, by simp [intOf]; omega⟩
        · have b1 : ((s[q].toNat : Int) == 32) = false := bne_u8 (k := 32) (by omega)
          have b2 : ((s[q].toNat : Int) == 9) = false := bne_u8 (k := 9) (by omega)
          have b3 : ((s[q].toNat : Int) == 10) = false := bne_u8 (k := 10) (by omega)
          have b4 : ((s[q].toNat : Int) == 13) = true := beq_u8 h
          clear h
          go_wp2_with fail
          refine ⟨⟨q + 1, by omega, by go_num, HST⟩, by simp [intOf]; omega⟩
      · have hb' : isBlank s[q] = false := by simpa using hb
        obtain ⟨n1, n2, n3, n4⟩ := blank_no hb'
        rw [blanks_zero _ hb', Nat.add_zero] at hst
        subst hst
        have b1 : ((s[q].toNat : Int) == 32) = false := bne_u8 (k := 32) n1
        have b2 : ((s[q].toNat : Int) == 9) = false := bne_u8 (k := 9) n2
        have b3 : ((s[q].toNat : Int) == 10) = false := bne_u8 (k := 10) n3
        have b4 : ((s[q].toNat : Int) == 13) = false := bne_u8 (k := 13) n4
        clear hdr HQ hb hb' n1 n2 n3 n4
        go_wp2_with fail
        go_ret
        exact ⟨rfl, rfl⟩
    · have hst := HQ.out
      rw [drop_none (by omega)] at hst
      have hst' : q = z := hst
      subst hst'
      clear hst HQ
      go_wp2_with fail
      go_ret
      exact ⟨rfl, rfl⟩
set_option maxRecDepth 100000 in
set_option maxHeartbeats 2000000 in
theorem behind_any (s : ByteArray) (a : Nat) (w : World) (hs : s.size ≤ 281474976710656) (ha : a ≤ s.size) (z : Nat) (hz : Hid (a + blanks (s.data.toList.drop a) = z)) :
    Calls Tryz.prog 30 #[.string s, .int .i64 a] w fun e w' => e = .returned (.int .i64 z) ∧ w = w' := by
  go_enter Tryz.func30, Tryz.ntmps30
  go_wp2_with fail
  go_loop [1] (fun p => ∃ q : Nat, q ≤ s.size ∧ p = .int .i64 q ∧ Hid (q + blanks (s.data.toList.drop q) = z)) (fun p => s.size - (intOf p).toNat)
  case atStart => exact ⟨a, ha, rfl, hz⟩
  case round =>
    obtain ⟨q, hq, rfl, HQ⟩ := hrel
    by_cases hlt : q < s.size
    · have hdr := drop_at hlt
      have hst := HQ.out
      rw [hdr] at hst
      by_cases hb : isBlank s[q] = true
      · rw [blanks_yes _ hb] at hst
        have HST := Lib.hid (show q + 1 + blanks (s.data.toList.drop (q + 1)) = z by omega)
        have hcs := blank_cases hb
        clear hst hdr HQ hb
        rcases hcs with h | h | h | h
        · have b1 : ((s[q].toNat : Int) == 32) = true := beq_u8 h
          clear h
          go_wp2_with fail
          refine ⟨⟨q + 1, by omega, by go_num, HST⟩, by simp [intOf]; omega⟩
        · have b1 : ((s[q].toNat : Int) == 32) = false := bne_u8 (k := 32) (by omega)
          have b2 : ((s[q].toNat : Int) == 9) = true := beq_u8 h
          clear h
          go_wp2_with fail
          refine ⟨⟨q + 1, by omega, by go_num, HST⟩, by simp [intOf]; omega⟩
        · have b1 : ((s[q].toNat : Int) == 32) = false := bne_u8 (k := 32) (by omega)
          have b2 : ((s[q].toNat : Int) == 9) = false := bne_u8 (k := 9) (by omega)
          have b3 : ((s[q].toNat : Int) == 10) = true := beq_u8 h
          clear h
          go_wp2_with fail
          refine ⟨⟨q + 1, by omega, by go_num, HST⟩, by simp [intOf]; omega⟩
        · have b1 : ((s[q].toNat : Int) == 32) = false := bne_u8 (k := 32) (by omega)
          have b2 : ((s[q].toNat : Int) == 9) = false := bne_u8 (k := 9) (by omega)
          have b3 : ((s[q].toNat : Int) == 10) = false := bne_u8 (k := 10) (by omega)
          have b4 : ((s[q].toNat : Int) == 13) = true := beq_u8 h
          clear h
          go_wp2_with fail
          refine ⟨⟨q + 1, by omega, by go_num, HST⟩, by simp [intOf]; omega⟩
      · have hb' : isBlank s[q] = false := by simpa using hb
        obtain ⟨n1, n2, n3, n4⟩ := blank_no hb'
        rw [blanks_zero _ hb', Nat.add_zero] at hst
        subst hst
        have b1 : ((s[q].toNat : Int) == 32) = false := bne_u8 (k := 32) n1
        have b2 : ((s[q].toNat : Int) == 9) = false := bne_u8 (k := 9) n2
        have b3 : ((s[q].toNat : Int) == 10) = false := bne_u8 (k := 10) n3
        have b4 : ((s[q].toNat : Int) == 13) = false := bne_u8 (k := 13) n4
        clear hdr HQ hb hb' n1 n2 n3 n4
        go_wp2_with fail
        go_ret
        exact ⟨rfl, rfl⟩
    · have hst := HQ.out
      rw [drop_none (by omega)] at hst
      have hst' : q = z := hst
      subst hst'
      clear hst HQ
      go_wp2_with fail
      go_ret
      exact ⟨rfl, rfl⟩
theorem bel_set5 {a b : World} (h : Below a.heap.size a b) {g : Nat} (hg : a.heap.size ≤ g) (v0 v1 v2 v3 v4 : Value) : Below a.heap.size a (((((b.setCell ⟨g, 0, none⟩ v0).setCell ⟨g, 1, none⟩ v1).setCell ⟨g, 2, none⟩ v2).setCell ⟨g, 3, none⟩ v3).setCell ⟨g, 4, none⟩ v4) :=
  bel_set (bel_set (bel_set (bel_set (bel_set h (p := ⟨g, 0, none⟩) hg v0) (p := ⟨g, 1, none⟩) hg v1) (p := ⟨g, 2, none⟩) hg v2) (p := ⟨g, 3, none⟩) hg v3) (p := ⟨g, 4, none⟩) hg v4
/-- A mark's answer in numbers. -/
def tokR (p : Nat) (x : Tok) : Mk × Int := if x.e ≠ 0 then (⟨0, 0, 0, 0, []⟩, x.e) else (x.at p, 0)
def resV (x : Mk × Int) : Int × Int × Int × Int × ByteArray × Int := (x.1.k, (x.1.a : Int), (x.1.z : Int), x.1.n, ⟨x.1.t.toArray⟩, x.2)
theorem resV_bad {p : Nat} {e k x z n er : Int} {t : ByteArray} (he : e ≠ 0) (h : resV (tokR p (.bad e)) = (k, x, z, n, t, er)) : k = 0 ∧ x = 0 ∧ z = 0 ∧ n = 0 ∧ t = ⟨#[]⟩ ∧ er = e := by
  unfold tokR at h
  rw [if_pos (show (Tok.bad e).e ≠ 0 from he)] at h
  simp only [resV, Prod.mk.injEq] at h
  exact ⟨h.1.symm, h.2.1.symm, h.2.2.1.symm, h.2.2.2.1.symm, h.2.2.2.2.1.symm, h.2.2.2.2.2.symm⟩
theorem resV_ok {p : Nat} {k0 : Int} {l0 : Nat} {n0 : Int} {t0 : List UInt8} {k x z n er : Int} {t : ByteArray} (h : resV (tokR p ⟨k0, l0, n0, t0, 0⟩) = (k, x, z, n, t, er)) : k = k0 ∧ x = (p : Int) ∧ z = (p : Int) + l0 ∧ n = n0 ∧ t = ⟨t0.toArray⟩ ∧ er = 0 := by
  unfold tokR at h
  rw [if_neg (by simp)] at h
  simp only [resV, Tok.at, Prod.mk.injEq] at h
  exact ⟨h.1.symm, h.2.1.symm, by rw [← h.2.2.1]; omega, h.2.2.2.1.symm, h.2.2.2.2.1.symm, h.2.2.2.2.2.symm⟩
set_option maxRecDepth 100000 in
set_option maxHeartbeats 2000000 in
theorem sign_any (k : Int) (a : Nat) (w : World) (ha : a ≤ 281474976710656) :
    Calls Tryz.prog 68 #[.int .u8 k, .int .i64 a] w fun e w' => e = .returned (.tuple #[.agg #[.int .u8 k, .int .i64 a, .int .i64 ((a : Int) + 1), .int .i64 0, .string ⟨#[]⟩], .int .i64 0]) ∧ Below w.heap.size w w' := by
  go_enter Tryz.func68, Tryz.ntmps68
  go_wp2_with fail
  exact bodyPost_ret (v := .tuple #[.agg #[.int .u8 k, .int .i64 a, .int .i64 ((a : Int) + 1), .int .i64 0, .string ⟨#[]⟩], .int .i64 0]) (by simp [results, Tryz.results68, go_sem]) rfl ⟨rfl, bel_alloc (Below.refl _ _) _⟩
set_option maxRecDepth 100000 in
set_option maxHeartbeats 2000000 in
theorem sign_open (s : ByteArray) (a : Nat) (w : World) (ha : a ≤ 281474976710656) :
    Calls Tryz.prog 49 #[.string s, .int .i64 a] w fun e w' => e = .returned (.tuple #[.agg #[.int .u8 1, .int .i64 a, .int .i64 ((a : Int) + 1), .int .i64 0, .string ⟨#[]⟩], .int .i64 0]) ∧ Below w.heap.size w w' := by
  go_enter Tryz.func49, Tryz.ntmps49
  go_wp2_with fail
  refine (sign_any _ a _ ha).mono ?_
  rintro e w2 ⟨rfl, hb2⟩
  have hsz : w.heap.size < w2.heap.size := by have := hb2.size; simp at this; omega
  obtain ⟨hc, hf⟩ := bcell hb2
  go_wp2_with fail
  exact bodyPost_ret (v := .tuple #[.agg #[.int .u8 1, .int .i64 a, .int .i64 ((a : Int) + 1), .int .i64 0, .string ⟨#[]⟩], .int .i64 0]) (by simp [results, Tryz.results49, go_sem, hc]) rfl ⟨rfl, bel_set5 (below_more (bel_alloc (Below.refl _ _) _) hb2) (Nat.le_refl _) _ _ _ _ _⟩
set_option maxRecDepth 100000 in
set_option maxHeartbeats 2000000 in
theorem sign_shut (s : ByteArray) (a : Nat) (w : World) (ha : a ≤ 281474976710656) :
    Calls Tryz.prog 50 #[.string s, .int .i64 a] w fun e w' => e = .returned (.tuple #[.agg #[.int .u8 2, .int .i64 a, .int .i64 ((a : Int) + 1), .int .i64 0, .string ⟨#[]⟩], .int .i64 0]) ∧ Below w.heap.size w w' := by
  go_enter Tryz.func50, Tryz.ntmps50
  go_wp2_with fail
  refine (sign_any _ a _ ha).mono ?_
  rintro e w2 ⟨rfl, hb2⟩
  have hsz : w.heap.size < w2.heap.size := by have := hb2.size; simp at this; omega
  obtain ⟨hc, hf⟩ := bcell hb2
  go_wp2_with fail
  exact bodyPost_ret (v := .tuple #[.agg #[.int .u8 2, .int .i64 a, .int .i64 ((a : Int) + 1), .int .i64 0, .string ⟨#[]⟩], .int .i64 0]) (by simp [results, Tryz.results50, go_sem, hc]) rfl ⟨rfl, bel_set5 (below_more (bel_alloc (Below.refl _ _) _) hb2) (Nat.le_refl _) _ _ _ _ _⟩
set_option maxRecDepth 100000 in
set_option maxHeartbeats 2000000 in
theorem sign_first (s : ByteArray) (a : Nat) (w : World) (ha : a ≤ 281474976710656) :
    Calls Tryz.prog 51 #[.string s, .int .i64 a] w fun e w' => e = .returned (.tuple #[.agg #[.int .u8 3, .int .i64 a, .int .i64 ((a : Int) + 1), .int .i64 0, .string ⟨#[]⟩], .int .i64 0]) ∧ Below w.heap.size w w' := by
  go_enter Tryz.func51, Tryz.ntmps51
  go_wp2_with fail
  refine (sign_any _ a _ ha).mono ?_
  rintro e w2 ⟨rfl, hb2⟩
  have hsz : w.heap.size < w2.heap.size := by have := hb2.size; simp at this; omega
  obtain ⟨hc, hf⟩ := bcell hb2
  go_wp2_with fail
  exact bodyPost_ret (v := .tuple #[.agg #[.int .u8 3, .int .i64 a, .int .i64 ((a : Int) + 1), .int .i64 0, .string ⟨#[]⟩], .int .i64 0]) (by simp [results, Tryz.results51, go_sem, hc]) rfl ⟨rfl, bel_set5 (below_more (bel_alloc (Below.refl _ _) _) hb2) (Nat.le_refl _) _ _ _ _ _⟩
set_option maxRecDepth 100000 in
set_option maxHeartbeats 2000000 in
theorem sign_last (s : ByteArray) (a : Nat) (w : World) (ha : a ≤ 281474976710656) :
    Calls Tryz.prog 52 #[.string s, .int .i64 a] w fun e w' => e = .returned (.tuple #[.agg #[.int .u8 4, .int .i64 a, .int .i64 ((a : Int) + 1), .int .i64 0, .string ⟨#[]⟩], .int .i64 0]) ∧ Below w.heap.size w w' := by
  go_enter Tryz.func52, Tryz.ntmps52
  go_wp2_with fail
  refine (sign_any _ a _ ha).mono ?_
  rintro e w2 ⟨rfl, hb2⟩
  have hsz : w.heap.size < w2.heap.size := by have := hb2.size; simp at this; omega
  obtain ⟨hc, hf⟩ := bcell hb2
  go_wp2_with fail
  exact bodyPost_ret (v := .tuple #[.agg #[.int .u8 4, .int .i64 a, .int .i64 ((a : Int) + 1), .int .i64 0, .string ⟨#[]⟩], .int .i64 0]) (by simp [results, Tryz.results52, go_sem, hc]) rfl ⟨rfl, bel_set5 (below_more (bel_alloc (Below.refl _ _) _) hb2) (Nat.le_refl _) _ _ _ _ _⟩
set_option maxRecDepth 100000 in
set_option maxHeartbeats 2000000 in
theorem sign_comma (s : ByteArray) (a : Nat) (w : World) (ha : a ≤ 281474976710656) :
    Calls Tryz.prog 53 #[.string s, .int .i64 a] w fun e w' => e = .returned (.tuple #[.agg #[.int .u8 5, .int .i64 a, .int .i64 ((a : Int) + 1), .int .i64 0, .string ⟨#[]⟩], .int .i64 0]) ∧ Below w.heap.size w w' := by
  go_enter Tryz.func53, Tryz.ntmps53
  go_wp2_with fail
  refine (sign_any _ a _ ha).mono ?_
  rintro e w2 ⟨rfl, hb2⟩
  have hsz : w.heap.size < w2.heap.size := by have := hb2.size; simp at this; omega
  obtain ⟨hc, hf⟩ := bcell hb2
  go_wp2_with fail
  exact bodyPost_ret (v := .tuple #[.agg #[.int .u8 5, .int .i64 a, .int .i64 ((a : Int) + 1), .int .i64 0, .string ⟨#[]⟩], .int .i64 0]) (by simp [results, Tryz.results53, go_sem, hc]) rfl ⟨rfl, bel_set5 (below_more (bel_alloc (Below.refl _ _) _) hb2) (Nat.le_refl _) _ _ _ _ _⟩
set_option maxRecDepth 100000 in
set_option maxHeartbeats 2000000 in
theorem sign_colon (s : ByteArray) (a : Nat) (w : World) (ha : a ≤ 281474976710656) :
    Calls Tryz.prog 54 #[.string s, .int .i64 a] w fun e w' => e = .returned (.tuple #[.agg #[.int .u8 6, .int .i64 a, .int .i64 ((a : Int) + 1), .int .i64 0, .string ⟨#[]⟩], .int .i64 0]) ∧ Below w.heap.size w w' := by
  go_enter Tryz.func54, Tryz.ntmps54
  go_wp2_with fail
  refine (sign_any _ a _ ha).mono ?_
  rintro e w2 ⟨rfl, hb2⟩
  have hsz : w.heap.size < w2.heap.size := by have := hb2.size; simp at this; omega
  obtain ⟨hc, hf⟩ := bcell hb2
  go_wp2_with fail
  exact bodyPost_ret (v := .tuple #[.agg #[.int .u8 6, .int .i64 a, .int .i64 ((a : Int) + 1), .int .i64 0, .string ⟨#[]⟩], .int .i64 0]) (by simp [results, Tryz.results54, go_sem, hc]) rfl ⟨rfl, bel_set5 (below_more (bel_alloc (Below.refl _ _) _) hb2) (Nat.le_refl _) _ _ _ _ _⟩
end

section
open Go.RowKit

set_option maxRecDepth 100000 in
set_option maxHeartbeats 2000000 in
theorem number_any (s : ByteArray) (a : Nat) (w : World) (hs : s.size ≤ 281474976710656) (ha : a ≤ s.size) (henv : NumEnv w) (k x z n : Int) (t : ByteArray) (er : Int) (hr : Hid (resV (tokR a (numP (s.data.toList.drop a))) = (k, x, z, n, t, er))) :
    Calls Tryz.prog 55 #[.string s, .int .i64 a] w fun e w' => e = .returned (.tuple #[.agg #[.int .u8 k, .int .i64 x, .int .i64 z, .int .i64 n, .string t], .int .i64 er]) ∧ Below w.heap.size w w' := by
  have hal : Below w.heap.size w (w.alloc (.cells #[.int .u8 0, .int .i64 0, .int .i64 0, .int .i64 0, .string ⟨#[]⟩] 41)) := bel_alloc (Below.refl _ _) _
  have henv2 := henv.below hal
  obtain ⟨r1, r2, r3, hR⟩ : ∃ r1 r2 r3, readP s.data.toList a = (r1, r2, r3) := ⟨_, _, _, rfl⟩
  have HC := Lib.hid (Read_in s a _ hs ha henv2 r1 r2 r3 hR)
  have h := hr.out
  rw [readP_in (by rw [size_len]; exact ha)] at hR
  unfold numP at h
  have hrun : Nm.run s.data.toList a = (s.data.toList.drop a).takeWhile Nm.isN := rfl
  rw [hrun] at hR
  clear hrun hr hal
  by_cases h1 : Nm.form ((s.data.toList.drop a).takeWhile Nm.isN) = false
  · rw [if_pos h1] at h hR
    obtain ⟨rfl, rfl, rfl, rfl, rfl, rfl⟩ := resV_bad (by decide) h
    simp only [Prod.mk.injEq] at hR
    obtain ⟨rfl, rfl, rfl⟩ := hR
    clear h h1 henv henv2
    go_enter Tryz.func55, Tryz.ntmps55
    go_wp2_with fail
    refine HC.out.mono ?_
    rintro e w2 ⟨rfl, hb2⟩
    have hsz : w.heap.size < w2.heap.size := by have := hb2.size; simp at this; omega
    obtain ⟨hc, hf⟩ := bcell hb2
    go_wp2_with fail
    exact bodyPost_ret (v := .tuple #[.agg #[.int .u8 0, .int .i64 0, .int .i64 0, .int .i64 0, .string ⟨#[]⟩], .int .i64 3]) (by simp [results, Tryz.results55, go_sem, hc]) rfl ⟨rfl, bel_set5 (below_more (bel_alloc (Below.refl _ _) _) hb2) (Nat.le_refl _) _ _ _ _ _⟩
  · rw [if_neg h1] at h hR
    by_cases h2 : -9223372036854775808 ≤ Nm.val ((s.data.toList.drop a).takeWhile Nm.isN) ∧ Nm.val ((s.data.toList.drop a).takeWhile Nm.isN) ≤ 9223372036854775807
    · rw [if_pos h2] at h hR
      obtain ⟨rfl, rfl, hz, rfl, rfl, rfl⟩ := resV_ok h
      simp only [Prod.mk.injEq] at hR
      obtain ⟨rfl, e2, rfl⟩ := hR
      rw [← hz] at e2
      obtain ⟨n, hn⟩ : ∃ n : Int, Nm.val ((s.data.toList.drop a).takeWhile Nm.isN) = n := ⟨_, rfl⟩
      rw [hn] at HC ⊢
      subst e2
      clear h h1 h2 hz hn henv henv2
      go_enter Tryz.func55, Tryz.ntmps55
      go_wp2_with fail
      refine HC.out.mono ?_
      rintro e w2 ⟨rfl, hb2⟩
      have hsz : w.heap.size < w2.heap.size := by have := hb2.size; simp at this; omega
      obtain ⟨hc, hf⟩ := bcell hb2
      go_wp2_with fail
      exact bodyPost_ret (v := .tuple #[.agg #[.int .u8 9, .int .i64 a, .int .i64 z, .int .i64 n, .string ⟨#[]⟩], .int .i64 0]) (by simp [results, Tryz.results55, go_sem, hc]) rfl ⟨rfl, bel_set5 (below_more (bel_alloc (Below.refl _ _) _) hb2) (Nat.le_refl _) _ _ _ _ _⟩
    · rw [if_neg h2] at h hR
      obtain ⟨rfl, rfl, rfl, rfl, rfl, rfl⟩ := resV_bad (by decide) h
      simp only [Prod.mk.injEq] at hR
      obtain ⟨rfl, rfl, rfl⟩ := hR
      clear h h1 h2 henv henv2
      go_enter Tryz.func55, Tryz.ntmps55
      go_wp2_with fail
      refine HC.out.mono ?_
      rintro e w2 ⟨rfl, hb2⟩
      have hsz : w.heap.size < w2.heap.size := by have := hb2.size; simp at this; omega
      obtain ⟨hc, hf⟩ := bcell hb2
      go_wp2_with fail
      exact bodyPost_ret (v := .tuple #[.agg #[.int .u8 0, .int .i64 0, .int .i64 0, .int .i64 0, .string ⟨#[]⟩], .int .i64 9]) (by simp [results, Tryz.results55, go_sem, hc]) rfl ⟨rfl, bel_set5 (below_more (bel_alloc (Below.refl _ _) _) hb2) (Nat.le_refl _) _ _ _ _ _⟩
set_option maxRecDepth 100000 in
set_option maxHeartbeats 2000000 in
theorem text_lex (s : ByteArray) (a : Nat) (w : World) (hs : s.size ≤ 281474976710656) (ha : a < s.size) (hq : s[a].toNat = 34) (k x z n : Int) (t : ByteArray) (er : Int) (hr : Hid (resV (tokR a (textP (s.data.toList.drop (a + 1)))) = (k, x, z, n, t, er))) :
    Calls Tryz.prog 56 #[.string s, .int .i64 a] w fun e w' => e = .returned (.tuple #[.agg #[.int .u8 k, .int .i64 x, .int .i64 z, .int .i64 n, .string t], .int .i64 er]) ∧ Below w.heap.size w w' := by
  obtain ⟨l, c, e, hR⟩ : ∃ l c e, strQ (s.data.toList.drop (a + 1)) [] = (l, c, e) := ⟨_, _, _, rfl⟩
  have h := hr.out
  rw [textP_eq, hR] at h
  simp only [] at h
  by_cases h1 : e ≠ 0
  · rw [if_pos h1] at h
    obtain ⟨rfl, rfl, rfl, rfl, rfl, rfl⟩ := resV_bad h1 h
    have HC := Lib.hid (fun W => quoteRead_any s a W hs ha hq [] 0 er (show strR (a + 1) (strQ (s.data.toList.drop (a + 1)) []) = _ by rw [hR, strR, if_pos h1]))
    have heb : (er != 0) = true := by rw [bne_iff_ne]; exact h1
    clear h h1 hR hr hq
    go_enter Tryz.func56, Tryz.ntmps56
    go_wp2_with fail
    refine (HC.out _).mono ?_
    rintro e w2 ⟨rfl, hb2⟩
    have hsz : w.heap.size < w2.heap.size := by have := hb2.size; simp at this; omega
    obtain ⟨hc, hf⟩ := bcell hb2
    go_wp2_with fail
    exact bodyPost_ret (v := .tuple #[.agg #[.int .u8 0, .int .i64 0, .int .i64 0, .int .i64 0, .string ⟨#[]⟩], .int .i64 er]) (by simp [results, Tryz.results56, go_sem, hc]) rfl ⟨rfl, bel_set5 (below_more (bel_alloc (Below.refl _ _) _) hb2) (Nat.le_refl _) _ _ _ _ _⟩
  · rw [if_neg h1] at h
    have h0 : e = 0 := by simpa using h1
    subst h0
    obtain ⟨rfl, rfl, hz, rfl, ht, rfl⟩ := resV_ok h
    have HC := Lib.hid (fun W => quoteRead_any s a W hs ha hq l z 0 (show strR (a + 1) (strQ (s.data.toList.drop (a + 1)) []) = _ by rw [hR, strR, if_neg h1, hz]; simp only [Prod.mk.injEq, true_and, and_true]; omega))
    rw [← ht] at HC
    clear h h1 hz hR hr hq ht
    go_enter Tryz.func56, Tryz.ntmps56
    go_wp2_with fail
    refine (HC.out _).mono ?_
    rintro e w2 ⟨rfl, hb2⟩
    have hsz : w.heap.size < w2.heap.size := by have := hb2.size; simp at this; omega
    obtain ⟨hc, hf⟩ := bcell hb2
    go_wp2_with fail
    exact bodyPost_ret (v := .tuple #[.agg #[.int .u8 10, .int .i64 a, .int .i64 z, .int .i64 0, .string t], .int .i64 0]) (by simp [results, Tryz.results56, go_sem, hc]) rfl ⟨rfl, bel_set5 (below_more (bel_alloc (Below.refl _ _) _) hb2) (Nat.le_refl _) _ _ _ _ _⟩
end

section
open Go.RowKit

theorem low_yes {c : UInt8} (h : isLow c = true) : (97 : Int) ≤ (c.toNat : Int) ∧ (c.toNat : Int) ≤ 122 := by
  simp [isLow] at h
  omega
theorem low_no {c : UInt8} (h : isLow c = false) : ¬ ((97 : Int) ≤ (c.toNat : Int)) ∨ ((97 : Int) ≤ (c.toNat : Int) ∧ ¬ (c.toNat : Int) ≤ 122) := by
  simp [isLow] at h
  omega
theorem get_at {s : ByteArray} {q : Nat} (h : q < s.size) : s.data.toList[q]? = some s[q] := Lib.data_getElem? s q h
theorem take_at {s : ByteArray} {a q : Nat} (ha : a ≤ q) (h : q < s.size) : (s.data.toList.drop a).take (q + 1 - a) = (s.data.toList.drop a).take (q - a) ++ [s[q]] := by
  rw [show q + 1 - a = q - a + 1 by omega, List.take_add_one, List.getElem?_drop, show a + (q - a) = q by omega, get_at h]
  rfl
theorem word_step {s : ByteArray} {a q : Nat} (ha : a ≤ q) (h : q < s.size) (hl : isLow s[q] = true) (H : (s.data.toList.drop a).takeWhile isLow = (s.data.toList.drop a).take (q - a) ++ (s.data.toList.drop q).takeWhile isLow) :
    (s.data.toList.drop a).takeWhile isLow = (s.data.toList.drop a).take (q + 1 - a) ++ (s.data.toList.drop (q + 1)).takeWhile isLow := by
  rw [H, drop_at h, List.takeWhile_cons, if_pos hl, take_at ha h, List.append_assoc]
  rfl
theorem ext_list (s : ByteArray) (a q : Nat) : (s.extract a q).toList = (s.data.toList.drop a).take (q - a) := by
  rw [toList_data, Lib.extract_data]
theorem word_end {s : ByteArray} {a q : Nat} (ha : a ≤ q) (hq : q ≤ s.size) (hstop : ∀ h : q < s.size, isLow s[q] = false) (H : (s.data.toList.drop a).takeWhile isLow = (s.data.toList.drop a).take (q - a) ++ (s.data.toList.drop q).takeWhile isLow) :
    (s.extract a q).toList = (s.data.toList.drop a).takeWhile isLow ∧ q = a + ((s.data.toList.drop a).takeWhile isLow).length := by
  have h0 : (s.data.toList.drop q).takeWhile isLow = [] := by
    by_cases h : q < s.size
    · rw [drop_at h, List.takeWhile_cons, if_neg (by simp [hstop h])]
    · rw [drop_none (by omega)]; rfl
  rw [h0, List.append_nil] at H
  refine ⟨by rw [ext_list, H], ?_⟩
  rw [H, List.length_take, List.length_drop, size_len]
  omega
set_option maxRecDepth 100000 in
set_option maxHeartbeats 4000000 in
theorem word_any (s : ByteArray) (a : Nat) (w : World) (hs : s.size ≤ 281474976710656) (ha : a ≤ s.size) (k x z n : Int) (t : ByteArray) (er : Int) (hr : Hid (resV (tokR a (wordP (s.data.toList.drop a))) = (k, x, z, n, t, er))) :
    Calls Tryz.prog 57 #[.string s, .int .i64 a] w fun e w' => e = .returned (.tuple #[.agg #[.int .u8 k, .int .i64 x, .int .i64 z, .int .i64 n, .string t], .int .i64 er]) ∧ Below w.heap.size w w' := by
  go_enter Tryz.func57, Tryz.ntmps57
  go_wp2_with fail
  go_loop [6] (fun p => ∃ q : Nat, a ≤ q ∧ q ≤ s.size ∧ p = .int .i64 q ∧ Hid ((s.data.toList.drop a).takeWhile isLow = (s.data.toList.drop a).take (q - a) ++ (s.data.toList.drop q).takeWhile isLow)) (fun p => s.size - (intOf p).toNat)
  case atStart => exact ⟨a, Nat.le_refl _, ha, rfl, by show _ = _; simp⟩
  case round =>
    obtain ⟨q, haq, hq, rfl, HQ⟩ := hrel
    by_cases hlt : q < s.size
    · by_cases hb : isLow s[q] = true
      · obtain ⟨b1, b2⟩ := low_yes hb
        have HST := Lib.hid (word_step haq hlt hb HQ.out)
        clear hb HQ
        go_wp2_with fail
        refine ⟨⟨q + 1, by omega, by omega, by go_num, HST⟩, by simp [intOf]; omega⟩
      · have hb' : isLow s[q] = false := by simpa using hb
        have hno := low_no hb'
        have HB := Lib.hid hb'
        clear hb hb'
        rcases hno with h1 | ⟨h1, h2⟩
        · have hW := word_end haq hq (fun hh => HB.out) HQ.out
          by_cases w1 : (s.data.toList.drop a).takeWhile isLow = [116, 114, 117, 101]
          · have e1 : ((s.extract a q).toList == [116, 114, 117, 101]) = true := by rw [hW.1, w1]; rfl
            have h := hr.out
            unfold wordP at h
            rw [if_pos w1] at h
            obtain ⟨rfl, rfl, rfl, rfl, rfl, rfl⟩ := resV_ok h
            have hqa : q = a + 4 := by have := hW.2; rw [w1] at this; simpa using this
            have HQA := Lib.hid hqa
            clear w1 hW h hr HQ hqa
            go_wp2_with fail
            refine bodyPost_ret (v := .tuple #[.agg #[.int .u8 7, .int .i64 a, .int .i64 q, .int .i64 0, .string ⟨#[]⟩], .int .i64 0]) (by simp [results, Tryz.results57, go_sem]) rfl ⟨?_, bel_alloc (Below.refl _ _) _⟩
            rw [HQA.out]; rfl
          · have e1 : ((s.extract a q).toList == [116, 114, 117, 101]) = false := by rw [hW.1]; exact beq_eq_false_iff_ne.2 w1
            by_cases w2 : (s.data.toList.drop a).takeWhile isLow = [102, 97, 108, 115, 101]
            · have e2 : ((s.extract a q).toList == [102, 97, 108, 115, 101]) = true := by rw [hW.1, w2]; rfl
              have h := hr.out
              unfold wordP at h
              rw [if_neg w1, if_pos w2] at h
              obtain ⟨rfl, rfl, rfl, rfl, rfl, rfl⟩ := resV_ok h
              have hqa : q = a + 5 := by have := hW.2; rw [w2] at this; simpa using this
              have HQA := Lib.hid hqa
              clear w1 w2 hW h hr HQ hqa
              go_wp2_with fail
              refine bodyPost_ret (v := .tuple #[.agg #[.int .u8 8, .int .i64 a, .int .i64 q, .int .i64 0, .string ⟨#[]⟩], .int .i64 0]) (by simp [results, Tryz.results57, go_sem]) rfl ⟨?_, bel_alloc (Below.refl _ _) _⟩
              rw [HQA.out]; rfl
            · have e2 : ((s.extract a q).toList == [102, 97, 108, 115, 101]) = false := by rw [hW.1]; exact beq_eq_false_iff_ne.2 w2
              have h := hr.out
              unfold wordP at h
              rw [if_neg w1, if_neg w2] at h
              obtain ⟨rfl, rfl, rfl, rfl, rfl, rfl⟩ := resV_bad (by decide) h
              clear w1 w2 hW h hr HQ
              go_wp2_with fail
              exact bodyPost_ret (v := .tuple #[.agg #[.int .u8 0, .int .i64 0, .int .i64 0, .int .i64 0, .string ⟨#[]⟩], .int .i64 3]) (by simp [results, Tryz.results57, go_sem]) rfl ⟨rfl, bel_alloc (Below.refl _ _) _⟩
        · have hW := word_end haq hq (fun hh => HB.out) HQ.out
          by_cases w1 : (s.data.toList.drop a).takeWhile isLow = [116, 114, 117, 101]
          · have e1 : ((s.extract a q).toList == [116, 114, 117, 101]) = true := by rw [hW.1, w1]; rfl
            have h := hr.out
            unfold wordP at h
            rw [if_pos w1] at h
            obtain ⟨rfl, rfl, rfl, rfl, rfl, rfl⟩ := resV_ok h
            have hqa : q = a + 4 := by have := hW.2; rw [w1] at this; simpa using this
            have HQA := Lib.hid hqa
            clear w1 hW h hr HQ hqa
            go_wp2_with fail
            refine bodyPost_ret (v := .tuple #[.agg #[.int .u8 7, .int .i64 a, .int .i64 q, .int .i64 0, .string ⟨#[]⟩], .int .i64 0]) (by simp [results, Tryz.results57, go_sem]) rfl ⟨?_, bel_alloc (Below.refl _ _) _⟩
            rw [HQA.out]; rfl
          · have e1 : ((s.extract a q).toList == [116, 114, 117, 101]) = false := by rw [hW.1]; exact beq_eq_false_iff_ne.2 w1
            by_cases w2 : (s.data.toList.drop a).takeWhile isLow = [102, 97, 108, 115, 101]
            · have e2 : ((s.extract a q).toList == [102, 97, 108, 115, 101]) = true := by rw [hW.1, w2]; rfl
              have h := hr.out
              unfold wordP at h
              rw [if_neg w1, if_pos w2] at h
              obtain ⟨rfl, rfl, rfl, rfl, rfl, rfl⟩ := resV_ok h
              have hqa : q = a + 5 := by have := hW.2; rw [w2] at this; simpa using this
              have HQA := Lib.hid hqa
              clear w1 w2 hW h hr HQ hqa
              go_wp2_with fail
              refine bodyPost_ret (v := .tuple #[.agg #[.int .u8 8, .int .i64 a, .int .i64 q, .int .i64 0, .string ⟨#[]⟩], .int .i64 0]) (by simp [results, Tryz.results57, go_sem]) rfl ⟨?_, bel_alloc (Below.refl _ _) _⟩
              rw [HQA.out]; rfl
            · have e2 : ((s.extract a q).toList == [102, 97, 108, 115, 101]) = false := by rw [hW.1]; exact beq_eq_false_iff_ne.2 w2
              have h := hr.out
              unfold wordP at h
              rw [if_neg w1, if_neg w2] at h
              obtain ⟨rfl, rfl, rfl, rfl, rfl, rfl⟩ := resV_bad (by decide) h
              clear w1 w2 hW h hr HQ
              go_wp2_with fail
              exact bodyPost_ret (v := .tuple #[.agg #[.int .u8 0, .int .i64 0, .int .i64 0, .int .i64 0, .string ⟨#[]⟩], .int .i64 3]) (by simp [results, Tryz.results57, go_sem]) rfl ⟨rfl, bel_alloc (Below.refl _ _) _⟩
    · have hW := word_end haq hq (fun hh => absurd hh hlt) HQ.out
      by_cases w1 : (s.data.toList.drop a).takeWhile isLow = [116, 114, 117, 101]
      · have e1 : ((s.extract a q).toList == [116, 114, 117, 101]) = true := by rw [hW.1, w1]; rfl
        have h := hr.out
        unfold wordP at h
        rw [if_pos w1] at h
        obtain ⟨rfl, rfl, rfl, rfl, rfl, rfl⟩ := resV_ok h
        have hqa : q = a + 4 := by have := hW.2; rw [w1] at this; simpa using this
        have HQA := Lib.hid hqa
        clear w1 hW h hr HQ hqa
        go_wp2_with fail
        refine bodyPost_ret (v := .tuple #[.agg #[.int .u8 7, .int .i64 a, .int .i64 q, .int .i64 0, .string ⟨#[]⟩], .int .i64 0]) (by simp [results, Tryz.results57, go_sem]) rfl ⟨?_, bel_alloc (Below.refl _ _) _⟩
        rw [HQA.out]; rfl
      · have e1 : ((s.extract a q).toList == [116, 114, 117, 101]) = false := by rw [hW.1]; exact beq_eq_false_iff_ne.2 w1
        by_cases w2 : (s.data.toList.drop a).takeWhile isLow = [102, 97, 108, 115, 101]
        · have e2 : ((s.extract a q).toList == [102, 97, 108, 115, 101]) = true := by rw [hW.1, w2]; rfl
          have h := hr.out
          unfold wordP at h
          rw [if_neg w1, if_pos w2] at h
          obtain ⟨rfl, rfl, rfl, rfl, rfl, rfl⟩ := resV_ok h
          have hqa : q = a + 5 := by have := hW.2; rw [w2] at this; simpa using this
          have HQA := Lib.hid hqa
          clear w1 w2 hW h hr HQ hqa
          go_wp2_with fail
          refine bodyPost_ret (v := .tuple #[.agg #[.int .u8 8, .int .i64 a, .int .i64 q, .int .i64 0, .string ⟨#[]⟩], .int .i64 0]) (by simp [results, Tryz.results57, go_sem]) rfl ⟨?_, bel_alloc (Below.refl _ _) _⟩
          rw [HQA.out]; rfl
        · have e2 : ((s.extract a q).toList == [102, 97, 108, 115, 101]) = false := by rw [hW.1]; exact beq_eq_false_iff_ne.2 w2
          have h := hr.out
          unfold wordP at h
          rw [if_neg w1, if_neg w2] at h
          obtain ⟨rfl, rfl, rfl, rfl, rfl, rfl⟩ := resV_bad (by decide) h
          clear w1 w2 hW h hr HQ
          go_wp2_with fail
          exact bodyPost_ret (v := .tuple #[.agg #[.int .u8 0, .int .i64 0, .int .i64 0, .int .i64 0, .string ⟨#[]⟩], .int .i64 3]) (by simp [results, Tryz.results57, go_sem]) rfl ⟨rfl, bel_alloc (Below.refl _ _) _⟩
end

section
open Go.RowKit

def ruleT0 (Z : Array Value) : Array Value := (((((((((Z.setIfInBounds 123 (.func (.func 49) #[] #[])).setIfInBounds 125 (.func (.func 50) #[] #[])).setIfInBounds 91 (.func (.func 51) #[] #[])).setIfInBounds 93 (.func (.func 52) #[] #[])).setIfInBounds 44 (.func (.func 53) #[] #[])).setIfInBounds 58 (.func (.func 54) #[] #[])).setIfInBounds 45 (.func (.func 55) #[] #[])).setIfInBounds 43 (.func (.func 55) #[] #[])).setIfInBounds 46 (.func (.func 55) #[] #[])).setIfInBounds 34 (.func (.func 56) #[] #[])
def ruleT1 (Z : Array Value) : Nat → Array Value
  | 0 => ruleT0 Z
  | k + 1 => (ruleT1 Z k).setIfInBounds (48 + k) (.func (.func 55) #[] #[])
def ruleT2 (Z : Array Value) : Nat → Array Value
  | 0 => ruleT1 Z 10
  | k + 1 => (ruleT2 Z k).setIfInBounds (97 + k) (.func (.func 57) #[] #[])
theorem ruleZ_size : Tryz.zeroCells77.size = 256 := by kernel_rfl
theorem ruleT0_size {Z : Array Value} (h : Z.size = 256) : (ruleT0 Z).size = 256 := by unfold ruleT0; simp only [Array.size_setIfInBounds]; exact h
theorem ruleT1_size {Z : Array Value} (h : Z.size = 256) : ∀ k, (ruleT1 Z k).size = 256
  | 0 => ruleT0_size h
  | k + 1 => by rw [ruleT1, Array.size_setIfInBounds]; exact ruleT1_size h k
theorem ruleT2_size {Z : Array Value} (h : Z.size = 256) : ∀ k, (ruleT2 Z k).size = 256
  | 0 => ruleT1_size h 10
  | k + 1 => by rw [ruleT2, Array.size_setIfInBounds]; exact ruleT2_size h k
theorem ruleT0_one : (ruleT0 Tryz.zeroCells77).all (·.oneCell') = true := by kernel_rfl
theorem ruleT_one : (ruleT2 Tryz.zeroCells77 26).all (·.oneCell') = true := by kernel_rfl
theorem infoRules : (Tryz.prog.info? 77).map (·.size) = some 256 := by kernel_rfl
/-- The reader of the marks that begin with a byte. -/
def ruleV (c : Nat) : Value :=
  if c = 123 then .func (.func 49) #[] #[] else if c = 125 then .func (.func 50) #[] #[] else if c = 91 then .func (.func 51) #[] #[] else if c = 93 then .func (.func 52) #[] #[] else if c = 44 then .func (.func 53) #[] #[] else if c = 58 then .func (.func 54) #[] #[]
  else if c = 34 then .func (.func 56) #[] #[] else if (48 ≤ c ∧ c ≤ 57) ∨ c = 45 ∨ c = 43 ∨ c = 46 then .func (.func 55) #[] #[] else if 97 ≤ c ∧ c ≤ 122 then .func (.func 57) #[] #[] else .nilFunc
def ruleT : Array Value := ((List.range 256).map ruleV).toArray
theorem ruleT_eq : ruleT2 Tryz.zeroCells77 26 = ruleT := by kernel_rfl
theorem ruleT_get {c : Nat} (h : c < 256) : ruleT[c]? = some (ruleV c) := by
  unfold ruleT
  rw [List.getElem?_toArray, List.getElem?_map, List.getElem?_range h]
  rfl
theorem ruleT_size : ruleT.size = 256 := by rw [← ruleT_eq]; exact ruleT2_size ruleZ_size 26
theorem ruleT_one' : ruleT.all (·.oneCell') = true := by rw [← ruleT_eq]; exact ruleT_one
theorem set_al (w : World) (c : Array Value) (t : TypeId) (g i : Nat) (v : Value) (hg : g = w.heap.size) : (w.alloc (.cells c t)).setCell ⟨g, i, none⟩ v = w.alloc (.cells (c.setIfInBounds i v) t) := by
  subst hg
  have hh : (w.alloc (.cells c t)).heap[w.heap.size]? = some (.cells c t (0, 0)) := heap_alloc_last w _
  rw [setCell_eq_setRow _ _ i c t (0, 0) v hh, World.setRow_alloc_new]
theorem bel_setRow {a b : World} (h : Below a.heap.size a b) {g : Nat} (cs : Array Value) (hg : a.heap.size ≤ g) : Below a.heap.size a (b.setRow g cs) :=
  ⟨h.os, h.tape, h.output, by rw [size_setRow]; exact h.size, fun k hk => by rw [setRow_other b g k cs (by omega)]; exact h.block k hk⟩
set_option maxRecDepth 100000 in
set_option maxHeartbeats 2000000 in
theorem rules_any (w : World) : Calls Tryz.prog 38 #[] w fun e w' => e = .returned (.agg ruleT) ∧ Below w.heap.size w w' := by
  rw [← ruleT_eq]
  go_enter Tryz.func38, Tryz.ntmps38
  go_wp2_with (with_reducible refine wpList_store_row rfl 77 (.tmp 1) (.tmp 14) rfl (w.heap.size + 1) (ruleT0 Tryz.zeroCells77) ?c1 ?c2 77 Tryz.zeroCells77 ?c3 ?c4 ?c5 ?c6 ?_)
  case c1 => rfl
  case c2 => rfl
  case c3 => exact heap_alloc2_new w _ _
  case c4 => rw [ruleT0_size ruleZ_size]; exact infoRules
  case c5 => rw [ruleT0_size ruleZ_size]; exact ruleZ_size
  case c6 => exact ruleT0_one
  have hw0 : ((w.alloc (.cells Tryz.zeroCells77 77)).alloc (.cells Tryz.zeroCells77 77)).setRow (w.heap.size + 1) (ruleT0 Tryz.zeroCells77) = (w.alloc (.cells Tryz.zeroCells77 77)).alloc (.cells (ruleT1 Tryz.zeroCells77 0) 77) := by
    rw [← size_al w (.cells Tryz.zeroCells77 77), World.setRow_alloc_new]; rfl
  obtain ⟨W1, hW1⟩ : ∃ W1, W1 = w.alloc (.cells Tryz.zeroCells77 77) := ⟨_, rfl⟩
  rw [← hW1] at hw0
  rw [← hW1]
  have hz1 : W1.heap.size = w.heap.size + 1 := by rw [hW1]; exact size_al _ _
  rw [hw0]
  have HW1 := Lib.hid hW1
  have HZ1 := Lib.hid hz1
  clear hw0 hW1 hz1
  go_loopw [2] (fun c wr => ∃ k : Nat, k ≤ 10 ∧ c = .int .i32 (48 + k) ∧ Hid (wr = W1.alloc (.cells (ruleT1 Tryz.zeroCells77 k) 77))) (fun c _ => 58 - (intOf c).toNat)
  case atStart => exact ⟨0, by omega, rfl, rfl⟩
  case round =>
    obtain ⟨k, hk, rfl, HW⟩ := hrel
    by_cases hlt : k < 10
    · have hs1 : 48 + k < (ruleT1 Tryz.zeroCells77 k).size := by rw [ruleT1_size ruleZ_size]; omega
      have hc : wr.cell? ⟨w.heap.size + 1, 48 + k, none⟩ = some (ruleT1 Tryz.zeroCells77 k)[48 + k] := by
        rw [HW.out, cell_al_eq _ _ _ _ _ HZ1.out.symm, Array.getElem?_eq_getElem hs1]
      have hf : wr.frozen? ⟨w.heap.size + 1, 48 + k, none⟩ = false := by
        rw [HW.out]
        exact frozen_of_row _ _ _ (ruleT1 Tryz.zeroCells77 k) 77 (by rw [← HZ1.out]; exact heap_alloc_last W1 _)
      generalize (ruleT1 Tryz.zeroCells77 k)[48 + k] = u at hc
      clear hs1
      go_wp2_with fail
      refine ⟨⟨k + 1, by omega, by go_num, ?_⟩, by simp [intOf]; omega⟩
      show _ = _
      rw [HW.out, set_al _ _ _ _ _ _ HZ1.out.symm]
      rfl
    · obtain rfl : k = 10 := by omega
      clear hlt hk
      go_wp2_with fail
      go_loopw [3] (fun c wr => ∃ k : Nat, k ≤ 26 ∧ c = .int .i32 (97 + k) ∧ Hid (wr = W1.alloc (.cells (ruleT2 Tryz.zeroCells77 k) 77))) (fun c _ => 123 - (intOf c).toNat)
      case atStart => exact ⟨0, by omega, rfl, HW⟩
      case round =>
        obtain ⟨k, hk, rfl, HV⟩ := hrel
        by_cases hlt : k < 26
        · have hs1 : 97 + k < (ruleT2 Tryz.zeroCells77 k).size := by rw [ruleT2_size ruleZ_size]; omega
          have hc : wr.cell? ⟨w.heap.size + 1, 97 + k, none⟩ = some (ruleT2 Tryz.zeroCells77 k)[97 + k] := by
            rw [HV.out, cell_al_eq _ _ _ _ _ HZ1.out.symm, Array.getElem?_eq_getElem hs1]
          have hf : wr.frozen? ⟨w.heap.size + 1, 97 + k, none⟩ = false := by
            rw [HV.out]
            exact frozen_of_row _ _ _ (ruleT2 Tryz.zeroCells77 k) 77 (by rw [← HZ1.out]; exact heap_alloc_last W1 _)
          generalize (ruleT2 Tryz.zeroCells77 k)[97 + k] = u at hc
          clear hs1
          go_wp2_with fail
          refine ⟨⟨k + 1, by omega, by go_num, ?_⟩, by simp [intOf]; omega⟩
          show _ = _
          rw [HV.out, set_al _ _ _ _ _ _ HZ1.out.symm]
          rfl
        · obtain rfl : k = 26 := by omega
          clear hlt hk
          have hb1 : wr.heap[w.heap.size + 1]? = some (.cells (ruleT2 Tryz.zeroCells77 26) 77 (0, 0)) := by
            rw [HV.out, ← HZ1.out]; exact heap_alloc_last W1 _
          have hb0 : wr.heap[w.heap.size]? = some (.cells Tryz.zeroCells77 77 (0, 0)) := by
            rw [HV.out, Lib.alloc_old _ _ _ (by rw [HZ1.out]; omega), HW1.out]; exact heap_alloc_last w _
          have HB1 := Lib.hid hb1
          have HB0 := Lib.hid hb0
          clear hb1 hb0
          go_wp2_with (first | (with_reducible refine wpList_load_row rfl 77 (.tmp 1) rfl (w.heap.size + 1) ?d1 77 (ruleT2 Tryz.zeroCells77 26) (0, 0) _ HB1.out Tryz.underlying77 rfl ?d2 ?_) | (with_reducible refine wpList_store_row rfl 77 (.tmp 0) (.tmp 29) rfl w.heap.size (ruleT2 Tryz.zeroCells77 26) ?c1 ?c2 77 Tryz.zeroCells77 HB0.out ?c4 ?c5 ?c6 ?_))
          case d1 => rfl
          case d2 => rw [ruleT2_size ruleZ_size]; exact infoRules
          case c4 => rw [ruleT2_size ruleZ_size]; exact infoRules
          case c5 => rw [ruleT2_size ruleZ_size]; exact ruleZ_size
          case c6 => exact ruleT_one
          refine bodyPost_ret (v := .agg (ruleT2 Tryz.zeroCells77 26)) (results_cell_row Tryz.results38 _ _ w.heap.size 77 _ (0, 0) _ rfl (setRow_heap _ _ _ _ _ _ HB0.out) Tryz.underlying77 rfl (by rw [ruleT2_size ruleZ_size]; exact infoRules)) rfl ⟨rfl, bel_setRow ?_ _ (Nat.le_refl _)⟩
          rw [HV.out, HW1.out]
          exact bel_alloc (bel_alloc (Below.refl _ _) _) _
end
end Go.Proofs.YtfdecbfcddkoiaaGreatDoor
