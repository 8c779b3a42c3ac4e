/-
  lex: blanks, words, numbers, texts and signs.
-/
import Derived.Test.YtkflnbmbkilicaaDoorQuoteText
import Derived.Test.YtkflnbmbkilicaaDoorLexLawsP
namespace Go.Proofs.YtkflnbmbkilicaaDoor
open Go.RowKit

theorem blanks_yes {c : UInt8} (r : List UInt8) (h : isBlank c = true) : blanks (c :: r) = blanks r + 1 := by
  unfold blanks
  rw [List.takeWhile_cons, if_pos h, List.length_cons]
theorem blank_no {c : UInt8} (h : isBlank c = false) : c.toNat ≠ 32 ∧ c.toNat ≠ 9 ∧ c.toNat ≠ 10 ∧ c.toNat ≠ 13 := by
  simp [isBlank] at h
  omega
theorem beq_u8 {c : UInt8} {k : Nat} (h : c.toNat = k) : ((c.toNat : Int) == (k : Int)) = true := by rw [h]; simp
theorem bne_u8 {c : UInt8} {k : Nat} (h : c.toNat ≠ k) : ((c.toNat : Int) == (k : Int)) = false := beq_eq_false_iff_ne.2 (by omega)
set_option maxRecDepth 100000 in
set_option maxHeartbeats 2000000 in
theorem skip_any (s : ByteArray) (a : Nat) (w : World) (hs : s.size ≤ 281474976710656) (ha : a ≤ s.size) (z : Nat) (hz : Hid (a + blanks (s.data.toList.drop a) = z)) :
    Calls Tryd.prog 23 #[.string s, .int .i64 a] w fun e w' => e = .returned (.int .i64 z) ∧ w = w' := by
  go_enter Tryd.func23, Tryd.ntmps23
  go_wp2_with fail
  go_loop [1] (fun p => ∃ q : Nat, q ≤ s.size ∧ p = .int .i64 q ∧ Hid (q + blanks (s.data.toList.drop q) = z)) (fun p => s.size - (intOf p).toNat)
  case atStart => exact ⟨a, ha, rfl, hz⟩
  case round =>
    obtain ⟨q, hq, rfl, HQ⟩ := hrel
    by_cases hlt : q < s.size
    · have hdr := drop_at hlt
      have hst := HQ.out
      rw [hdr] at hst
      by_cases hb : isBlank s[q] = true
      · rw [blanks_yes _ hb] at hst
        have HST := Lib.hid (show q + 1 + blanks (s.data.toList.drop (q + 1)) = z by omega)
        have hcs := blank_cases hb
        clear hst hdr HQ hb
        rcases hcs with h | h | h | h
        · have b1 : ((s[q].toNat : Int) == 32) = true := beq_u8 h
          clear h
          go_wp2_with fail
          refine ⟨⟨q + 1, by omega, by go_num, HST⟩, by simp [intOf]; omega⟩
        · have b1 : ((s[q].toNat : Int) == 32) = false := bne_u8 (k := 32) (by omega)
          have b2 : ((s[q].toNat : Int) == 9) = true := beq_u8 h
          clear h
          go_wp2_with fail
          refine ⟨⟨q + 1, by omega, by go_num, HST⟩, by simp [intOf]; omega⟩
        · have b1 : ((s[q].toNat : Int) == 32) = false := bne_u8 (k := 32) (by omega)
          have b2 : ((s[q].toNat : Int) == 9) = false := bne_u8 (k := 9) (by omega)
          have b3 : ((s[q].toNat : Int) == 10) = true := beq_u8 h
          clear h
          go_wp2_with fail
          refine ⟨⟨q + 1, by omega, by go_num, HST⟩, by simp [intOf]; omega⟩
        · have b1 : ((s[q].toNat : Int) == 32) = false := bne_u8 (k := 32) (by omega)
          have b2 : ((s[q].toNat : Int) == 9) = false := bne_u8 (k := 9) (by omega)
          have b3 : ((s[q].toNat : Int) == 10) = false := bne_u8 (k := 10) (by omega)
          have b4 : ((s[q].toNat : Int) == 13) = true := beq_u8 h
          clear h
          go_wp2_with fail
          refine ⟨⟨q + 1, by omega, by go_num, HST⟩, by simp [intOf]; omega⟩
      · have hb' : isBlank s[q] = false := by simpa using hb
        obtain ⟨n1, n2, n3, n4⟩ := blank_no hb'
        rw [blanks_zero _ hb', Nat.add_zero] at hst
        subst hst
        have b1 : ((s[q].toNat : Int) == 32) = false := bne_u8 (k := 32) n1
        have b2 : ((s[q].toNat : Int) == 9) = false := bne_u8 (k := 9) n2
        have b3 : ((s[q].toNat : Int) == 10) = false := bne_u8 (k := 10) n3
        have b4 : ((s[q].toNat : Int) == 13) = false := bne_u8 (k := 13) n4
        clear hdr HQ hb hb' n1 n2 n3 n4
        go_wp2_with fail
        go_ret
        exact ⟨rfl, rfl⟩
    · have hst := HQ.out
      rw [drop_none (by omega)] at hst
      have hst' : q = z := hst
      subst hst'
      clear hst HQ
      go_wp2_with fail
      go_ret
      exact ⟨rfl, rfl⟩
set_option maxRecDepth 100000 in
set_option maxHeartbeats 2000000 in
theorem behind_any (s : ByteArray) (a : Nat) (w : World) (hs : s.size ≤ 281474976710656) (ha : a ≤ s.size) (z : Nat) (hz : Hid (a + blanks (s.data.toList.drop a) = z)) :
    Calls Tryd.prog 25 #[.string s, .int .i64 a] w fun e w' => e = .returned (.int .i64 z) ∧ w = w' := by
  go_enter Tryd.func25, Tryd.ntmps25
  go_wp2_with fail
  go_loop [1] (fun p => ∃ q : Nat, q ≤ s.size ∧ p = .int .i64 q ∧ Hid (q + blanks (s.data.toList.drop q) = z)) (fun p => s.size - (intOf p).toNat)
  case atStart => exact ⟨a, ha, rfl, hz⟩
  case round =>
    obtain ⟨q, hq, rfl, HQ⟩ := hrel
    by_cases hlt : q < s.size
    · have hdr := drop_at hlt
      have hst := HQ.out
      rw [hdr] at hst
      by_cases hb : isBlank s[q] = true
      · rw [blanks_yes _ hb] at hst
        have HST := Lib.hid (show q + 1 + blanks (s.data.toList.drop (q + 1)) = z by omega)
        have hcs := blank_cases hb
        clear hst hdr HQ hb
        rcases hcs with h | h | h | h
        · have b1 : ((s[q].toNat : Int) == 32) = true := beq_u8 h
          clear h
          go_wp2_with fail
          refine ⟨⟨q + 1, by omega, by go_num, HST⟩, by simp [intOf]; omega⟩
        · have b1 : ((s[q].toNat : Int) == 32) = false := bne_u8 (k := 32) (by omega)
          have b2 : ((s[q].toNat : Int) == 9) = true := beq_u8 h
          clear h
          go_wp2_with fail
          refine ⟨⟨q + 1, by omega, by go_num, HST⟩, by simp [intOf]; omega⟩
        · have b1 : ((s[q].toNat : Int) == 32) = false := bne_u8 (k := 32) (by omega)
          have b2 : ((s[q].toNat : Int) == 9) = false := bne_u8 (k := 9) (by omega)
          have b3 : ((s[q].toNat : Int) == 10) = true := beq_u8 h
          clear h
          go_wp2_with fail
          refine ⟨⟨q + 1, by omega, by go_num, HST⟩, by simp [intOf]; omega⟩
        · have b1 : ((s[q].toNat : Int) == 32) = false := bne_u8 (k := 32) (by omega)
          have b2 : ((s[q].toNat : Int) == 9) = false := bne_u8 (k := 9) (by omega)
          have b3 : ((s[q].toNat : Int) == 10) = false := bne_u8 (k := 10) (by omega)
          have b4 : ((s[q].toNat : Int) == 13) = true := beq_u8 h
          clear h
          go_wp2_with fail
          refine ⟨⟨q + 1, by omega, by go_num, HST⟩, by simp [intOf]; omega⟩
      · have hb' : isBlank s[q] = false := by simpa using hb
        obtain ⟨n1, n2, n3, n4⟩ := blank_no hb'
        rw [blanks_zero _ hb', Nat.add_zero] at hst
        subst hst
        have b1 : ((s[q].toNat : Int) == 32) = false := bne_u8 (k := 32) n1
        have b2 : ((s[q].toNat : Int) == 9) = false := bne_u8 (k := 9) n2
        have b3 : ((s[q].toNat : Int) == 10) = false := bne_u8 (k := 10) n3
        have b4 : ((s[q].toNat : Int) == 13) = false := bne_u8 (k := 13) n4
        clear hdr HQ hb hb' n1 n2 n3 n4
        go_wp2_with fail
        go_ret
        exact ⟨rfl, rfl⟩
    · have hst := HQ.out
      rw [drop_none (by omega)] at hst
      have hst' : q = z := hst
      subst hst'
      clear hst HQ
      go_wp2_with fail
      go_ret
      exact ⟨rfl, rfl⟩
theorem bel_set5 {a b : World} (h : Below a.heap.size a b) {g : Nat} (hg : a.heap.size ≤ g) (v0 v1 v2 v3 v4 : Value) : Below a.heap.size a (((((b.setCell ⟨g, 0, none⟩ v0).setCell ⟨g, 1, none⟩ v1).setCell ⟨g, 2, none⟩ v2).setCell ⟨g, 3, none⟩ v3).setCell ⟨g, 4, none⟩ v4) :=
  bel_set (bel_set (bel_set (bel_set (bel_set h (p := ⟨g, 0, none⟩) hg v0) (p := ⟨g, 1, none⟩) hg v1) (p := ⟨g, 2, none⟩) hg v2) (p := ⟨g, 3, none⟩) hg v3) (p := ⟨g, 4, none⟩) hg v4
/-- A mark's answer in numbers. -/
def tokR (p : Nat) (x : Tok) : Mk × Int := if x.e ≠ 0 then (⟨0, 0, 0, 0, []⟩, x.e) else (x.at p, 0)
def resV (x : Mk × Int) : Int × Int × Int × Int × ByteArray × Int := (x.1.k, (x.1.a : Int), (x.1.z : Int), x.1.n, ⟨x.1.t.toArray⟩, x.2)
theorem resV_bad {p : Nat} {e k x z n er : Int} {t : ByteArray} (he : e ≠ 0) (h : resV (tokR p (.bad e)) = (k, x, z, n, t, er)) : k = 0 ∧ x = 0 ∧ z = 0 ∧ n = 0 ∧ t = ⟨#[]⟩ ∧ er = e := by
  unfold tokR at h
  rw [if_pos (show (Tok.bad e).e ≠ 0 from he)] at h
  simp only [resV, Prod.mk.injEq] at h
  exact ⟨h.1.symm, h.2.1.symm, h.2.2.1.symm, h.2.2.2.1.symm, h.2.2.2.2.1.symm, h.2.2.2.2.2.symm⟩
theorem resV_ok {p : Nat} {k0 : Int} {l0 : Nat} {n0 : Int} {t0 : List UInt8} {k x z n er : Int} {t : ByteArray} (h : resV (tokR p ⟨k0, l0, n0, t0, 0⟩) = (k, x, z, n, t, er)) : k = k0 ∧ x = (p : Int) ∧ z = (p : Int) + l0 ∧ n = n0 ∧ t = ⟨t0.toArray⟩ ∧ er = 0 := by
  unfold tokR at h
  rw [if_neg (by simp)] at h
  simp only [resV, Tok.at, Prod.mk.injEq] at h
  exact ⟨h.1.symm, h.2.1.symm, by rw [← h.2.2.1]; omega, h.2.2.2.1.symm, h.2.2.2.2.1.symm, h.2.2.2.2.2.symm⟩
set_option maxRecDepth 100000 in
set_option maxHeartbeats 2000000 in
theorem sign_any (k : Int) (a : Nat) (w : World) (ha : a ≤ 281474976710656) :
    Calls Tryd.prog 50 #[.int .u8 k, .int .i64 a] w fun e w' => e = .returned (.tuple #[.agg #[.int .u8 k, .int .i64 a, .int .i64 ((a : Int) + 1), .int .i64 0, .string ⟨#[]⟩], .int .i64 0]) ∧ Below w.heap.size w w' := by
  go_enter Tryd.func50, Tryd.ntmps50
  go_wp2_with fail
  exact bodyPost_ret (v := .tuple #[.agg #[.int .u8 k, .int .i64 a, .int .i64 ((a : Int) + 1), .int .i64 0, .string ⟨#[]⟩], .int .i64 0]) (by simp [results, Tryd.results50, go_sem]) rfl ⟨rfl, bel_alloc (Below.refl _ _) _⟩
set_option maxRecDepth 100000 in
set_option maxHeartbeats 2000000 in
theorem sign_open (s : ByteArray) (a : Nat) (w : World) (ha : a ≤ 281474976710656) :
    Calls Tryd.prog 31 #[.string s, .int .i64 a] w fun e w' => e = .returned (.tuple #[.agg #[.int .u8 1, .int .i64 a, .int .i64 ((a : Int) + 1), .int .i64 0, .string ⟨#[]⟩], .int .i64 0]) ∧ Below w.heap.size w w' := by
  go_enter Tryd.func31, Tryd.ntmps31
  go_wp2_with fail
  refine (sign_any _ a _ ha).mono ?_
  rintro e w2 ⟨rfl, hb2⟩
  have hsz : w.heap.size < w2.heap.size := by have := hb2.size; simp at this; omega
  obtain ⟨hc, hf⟩ := bcell hb2
  go_wp2_with fail
  exact bodyPost_ret (v := .tuple #[.agg #[.int .u8 1, .int .i64 a, .int .i64 ((a : Int) + 1), .int .i64 0, .string ⟨#[]⟩], .int .i64 0]) (by simp [results, Tryd.results31, go_sem, hc]) rfl ⟨rfl, bel_set5 (below_more (bel_alloc (Below.refl _ _) _) hb2) (Nat.le_refl _) _ _ _ _ _⟩
set_option maxRecDepth 100000 in
set_option maxHeartbeats 2000000 in
theorem sign_shut (s : ByteArray) (a : Nat) (w : World) (ha : a ≤ 281474976710656) :
    Calls Tryd.prog 32 #[.string s, .int .i64 a] w fun e w' => e = .returned (.tuple #[.agg #[.int .u8 2, .int .i64 a, .int .i64 ((a : Int) + 1), .int .i64 0, .string ⟨#[]⟩], .int .i64 0]) ∧ Below w.heap.size w w' := by
  go_enter Tryd.func32, Tryd.ntmps32
  go_wp2_with fail
  refine (sign_any _ a _ ha).mono ?_
  rintro e w2 ⟨rfl, hb2⟩
  have hsz : w.heap.size < w2.heap.size := by have := hb2.size; simp at this; omega
  obtain ⟨hc, hf⟩ := bcell hb2
  go_wp2_with fail
  exact bodyPost_ret (v := .tuple #[.agg #[.int .u8 2, .int .i64 a, .int .i64 ((a : Int) + 1), .int .i64 0, .string ⟨#[]⟩], .int .i64 0]) (by simp [results, Tryd.results32, go_sem, hc]) rfl ⟨rfl, bel_set5 (below_more (bel_alloc (Below.refl _ _) _) hb2) (Nat.le_refl _) _ _ _ _ _⟩
set_option maxRecDepth 100000 in
set_option maxHeartbeats 2000000 in
theorem sign_first (s : ByteArray) (a : Nat) (w : World) (ha : a ≤ 281474976710656) :
    Calls Tryd.prog 33 #[.string s, .int .i64 a] w fun e w' => e = .returned (.tuple #[.agg #[.int .u8 3, .int .i64 a, .int .i64 ((a : Int) + 1), .int .i64 0, .string ⟨#[]⟩], .int .i64 0]) ∧ Below w.heap.size w w' := by
  go_enter Tryd.func33, Tryd.ntmps33
  go_wp2_with fail
  refine (sign_any _ a _ ha).mono ?_
  rintro e w2 ⟨rfl, hb2⟩
  have hsz : w.heap.size < w2.heap.size := by have := hb2.size; simp at this; omega
  obtain ⟨hc, hf⟩ := bcell hb2
  go_wp2_with fail
  exact bodyPost_ret (v := .tuple #[.agg #[.int .u8 3, .int .i64 a, .int .i64 ((a : Int) + 1), .int .i64 0, .string ⟨#[]⟩], .int .i64 0]) (by simp [results, Tryd.results33, go_sem, hc]) rfl ⟨rfl, bel_set5 (below_more (bel_alloc (Below.refl _ _) _) hb2) (Nat.le_refl _) _ _ _ _ _⟩
set_option maxRecDepth 100000 in
set_option maxHeartbeats 2000000 in
theorem sign_last (s : ByteArray) (a : Nat) (w : World) (ha : a ≤ 281474976710656) :
    Calls Tryd.prog 34 #[.string s, .int .i64 a] w fun e w' => e = .returned (.tuple #[.agg #[.int .u8 4, .int .i64 a, .int .i64 ((a : Int) + 1), .int .i64 0, .string ⟨#[]⟩], .int .i64 0]) ∧ Below w.heap.size w w' := by
  go_enter Tryd.func34, Tryd.ntmps34
  go_wp2_with fail
  refine (sign_any _ a _ ha).mono ?_
  rintro e w2 ⟨rfl, hb2⟩
  have hsz : w.heap.size < w2.heap.size := by have := hb2.size; simp at this; omega
  obtain ⟨hc, hf⟩ := bcell hb2
  go_wp2_with fail
  exact bodyPost_ret (v := .tuple #[.agg #[.int .u8 4, .int .i64 a, .int .i64 ((a : Int) + 1), .int .i64 0, .string ⟨#[]⟩], .int .i64 0]) (by simp [results, Tryd.results34, go_sem, hc]) rfl ⟨rfl, bel_set5 (below_more (bel_alloc (Below.refl _ _) _) hb2) (Nat.le_refl _) _ _ _ _ _⟩
set_option maxRecDepth 100000 in
set_option maxHeartbeats 2000000 in
theorem sign_comma (s : ByteArray) (a : Nat) (w : World) (ha : a ≤ 281474976710656) :
    Calls Tryd.prog 35 #[.string s, .int .i64 a] w fun e w' => e = .returned (.tuple #[.agg #[.int .u8 5, .int .i64 a, .int .i64 ((a : Int) + 1), .int .i64 0, .string ⟨#[]⟩], .int .i64 0]) ∧ Below w.heap.size w w' := by
  go_enter Tryd.func35, Tryd.ntmps35
  go_wp2_with fail
  refine (sign_any _ a _ ha).mono ?_
  rintro e w2 ⟨rfl, hb2⟩
  have hsz : w.heap.size < w2.heap.size := by have := hb2.size; simp at this; omega
  obtain ⟨hc, hf⟩ := bcell hb2
  go_wp2_with fail
  exact bodyPost_ret (v := .tuple #[.agg #[.int .u8 5, .int .i64 a, .int .i64 ((a : Int) + 1), .int .i64 0, .string ⟨#[]⟩], .int .i64 0]) (by simp [results, Tryd.results35, go_sem, hc]) rfl ⟨rfl, bel_set5 (below_more (bel_alloc (Below.refl _ _) _) hb2) (Nat.le_refl _) _ _ _ _ _⟩
set_option maxRecDepth 100000 in
set_option maxHeartbeats 2000000 in
theorem sign_colon (s : ByteArray) (a : Nat) (w : World) (ha : a ≤ 281474976710656) :
    Calls Tryd.prog 36 #[.string s, .int .i64 a] w fun e w' => e = .returned (.tuple #[.agg #[.int .u8 6, .int .i64 a, .int .i64 ((a : Int) + 1), .int .i64 0, .string ⟨#[]⟩], .int .i64 0]) ∧ Below w.heap.size w w' := by
  go_enter Tryd.func36, Tryd.ntmps36
  go_wp2_with fail
  refine (sign_any _ a _ ha).mono ?_
  rintro e w2 ⟨rfl, hb2⟩
  have hsz : w.heap.size < w2.heap.size := by have := hb2.size; simp at this; omega
  obtain ⟨hc, hf⟩ := bcell hb2
  go_wp2_with fail
  exact bodyPost_ret (v := .tuple #[.agg #[.int .u8 6, .int .i64 a, .int .i64 ((a : Int) + 1), .int .i64 0, .string ⟨#[]⟩], .int .i64 0]) (by simp [results, Tryd.results36, go_sem, hc]) rfl ⟨rfl, bel_set5 (below_more (bel_alloc (Below.refl _ _) _) hb2) (Nat.le_refl _) _ _ _ _ _⟩
end Go.Proofs.YtkflnbmbkilicaaDoor
