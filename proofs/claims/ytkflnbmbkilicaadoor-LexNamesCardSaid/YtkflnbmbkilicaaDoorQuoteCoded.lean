/-
  quote.coded: what is said behind a backslash and a u.
-/
import Derived.Test.YtkflnbmbkilicaaDoorQuoteFour
namespace Go.Proofs.YtkflnbmbkilicaaDoor
open Go.RowKit

/-- The answer at a place: the rune, and the place behind it; or the error. -/
def codedR (a : Nat) (l : List UInt8) : Int × Int × Int := if (codedP l).2.2 ≠ 0 then (0, 0, (codedP l).2.2) else ((codedP l).1, (a : Int) + (codedP l).2.1, 0)
/-- The second half, from its digits on. -/
def pairE (n : Int) (l : List UInt8) : Int × Nat × Int := if (fourP l).2 ≠ 0 then (0, 0, (fourP l).2) else if (fourP l).1 < 56320 ∨ 57343 < (fourP l).1 then (0, 0, 12) else (65536 + (n - 55296) * 1024 + ((fourP l).1 - 56320), 10, 0)
def pairG (n : Int) : Nat → List UInt8 → Int × Nat × Int
  | 0, l => pairP n l
  | 1, l => pairQ n l
  | _, l => pairE n l
def resP (a : Nat) (p : Int × Nat × Int) : Int × Int × Int := if p.2.2 ≠ 0 then (0, 0, p.2.2) else (p.1, (a : Int) + p.2.1, 0)
theorem resP_bad {a : Nat} {e r1 r2 r3 : Int} (he : e ≠ 0) (h : resP a (0, 0, e) = (r1, r2, r3)) : r1 = 0 ∧ r2 = 0 ∧ r3 = e := by
  unfold resP at h
  rw [if_pos he] at h
  simp only [Prod.mk.injEq] at h
  exact ⟨h.1.symm, h.2.1.symm, h.2.2.symm⟩
set_option maxRecDepth 100000 in
set_option maxHeartbeats 4000000 in
theorem coded_any (s : ByteArray) (a : Nat) (w : World) (hs : s.size ≤ 281474976710656) (ha : a ≤ s.size) (r1 r2 r3 : Int) (hr : Hid (codedR a (s.data.toList.drop a) = (r1, r2, r3))) :
    Calls Tryd.prog 88 #[.string s, .int .i64 a] w fun e w' => e = .returned (.tuple #[.int .i64 r1, .int .i64 r2, .int .i64 r3]) ∧ Below w.heap.size w w' := by
  obtain ⟨n, e, hf⟩ : ∃ n e, fourP (s.data.toList.drop a) = (n, e) := ⟨_, _, rfl⟩
  have hcall := fun W' => quoteFour_any s a W' hs ha n e hf
  have HC := Lib.hid hcall
  have hR := hr.out
  unfold codedR codedP at hR
  rw [hf] at hR
  simp only [] at hR
  have HF := Lib.hid hf
  clear hcall hf hr
  by_cases he : e = 0
  · subst he
    simp only [ne_eq, not_true_eq_false, if_false] at hR
    have hbd := fourP_bd (s.data.toList.drop a) (by rw [HF.out])
    rw [HF.out, List.length_drop, size_len] at hbd
    simp only [] at hbd
    obtain ⟨n0, n1, hl4⟩ := hbd
    by_cases h1 : n < 55296 ∨ 57343 < n
    · rw [if_pos h1] at hR
      simp only [not_true_eq_false, if_false, Prod.mk.injEq] at hR
      obtain ⟨rfl, h2, rfl⟩ := hR
      have H2 := Lib.hid h2
      clear h2
      by_cases h3 : n < 55296
      · go_enter Tryd.func88, Tryd.ntmps88
        go_wp2_with fail
        refine (HC.out _).mono ?_
        rintro e w2 ⟨rfl, hb2⟩
        go_wp2_with fail
        go_ret3
        exact ⟨ret3i rfl (by rw [← H2.out]; rfl) rfl, hb2⟩
      · have h4 : 57343 < n := by omega
        clear h1
        go_enter Tryd.func88, Tryd.ntmps88
        go_wp2_with fail
        refine (HC.out _).mono ?_
        rintro e w2 ⟨rfl, hb2⟩
        go_wp2_with fail
        go_ret3
        exact ⟨ret3i rfl (by rw [← H2.out]; rfl) rfl, hb2⟩
    · rw [if_neg h1] at hR
      have k1 : ¬ n < 55296 := by omega
      have k2 : ¬ 57343 < n := by omega
      clear h1
      by_cases h3 : 56320 ≤ n
      · rw [if_pos h3] at hR
        obtain ⟨rfl, rfl, rfl⟩ := resP_bad (a := a) (by decide) hR
        go_enter Tryd.func88, Tryd.ntmps88
        go_wp2_with fail
        refine (HC.out _).mono ?_
        rintro e w2 ⟨rfl, hb2⟩
        go_wp2_with fail
        go_ret3
        exact ⟨rfl, hb2⟩
      · rw [if_neg h3] at hR
        rw [List.drop_drop] at hR
        have HR : Hid (resP a (pairG n 0 (s.data.toList.drop (a + 4))) = (r1, r2, r3)) := hR
        clear hR
        go_enter Tryd.func88, Tryd.ntmps88
        go_wp2_with fail
        refine (HC.out _).mono ?_
        rintro e w2 ⟨rfl, hb2⟩
        have hk0 : (w2.alloc (.cells #[.int .u8 92, .int .u8 117] 5)).cell? ⟨w2.heap.size, 0, none⟩ = some (.int .u8 92) := (cell_al_eq w2 _ _ w2.heap.size 0 rfl).trans rfl
        have hk1 : (w2.alloc (.cells #[.int .u8 92, .int .u8 117] 5)).cell? ⟨w2.heap.size, 1, none⟩ = some (.int .u8 117) := (cell_al_eq w2 _ _ w2.heap.size 1 rfl).trans rfl
        go_wp2_with fail
        go_loop [1, 35] (fun p i => ∃ j q : Nat, j ≤ 2 ∧ i = .int .i64 j ∧ p = .int .i64 q ∧ q ≤ s.size ∧ Hid (q = a + 4 + j ∧ resP a (pairG n j (s.data.toList.drop q)) = (r1, r2, r3))) (fun _ i => 2 - (intOf i).toNat)
        case atStart => exact ⟨0, a + 4, by omega, rfl, by go_num, by omega, rfl, HR.out⟩
        case round =>
          obtain ⟨j, q, hj, rfl, rfl, hq, HQ⟩ := hrel
          by_cases hj2 : j = 2
          · subst hj2
            have hpe : resP a (pairE n (s.data.toList.drop q)) = (r1, r2, r3) := HQ.out.2
            obtain ⟨m, f, hf2⟩ : ∃ m f, fourP (s.data.toList.drop q) = (m, f) := ⟨_, _, rfl⟩
            have hbd := fourP_bd (s.data.toList.drop q)
            rw [hf2, List.length_drop, size_len] at hbd
            have HC2 := Lib.hid (fun W' => quoteFour_any s q W' hs hq m f hf2)
            unfold pairE at hpe
            rw [hf2] at hpe
            simp only [] at hpe hbd
            have HBD := Lib.hid hbd
            have HQA := Lib.hid HQ.out.1
            clear hbd hf2 HQ
            by_cases hf0 : f = 0
            · subst hf0
              obtain ⟨m0, m1, m2⟩ := HBD.out rfl
              simp only [ne_eq, not_true_eq_false, if_false] at hpe
              by_cases hm : m < 56320 ∨ 57343 < m
              · rw [if_pos hm] at hpe
                obtain ⟨rfl, rfl, rfl⟩ := resP_bad (by decide) hpe
                have hmm : m < 56320 ∨ (¬ m < 56320 ∧ 57343 < m) := by omega
                clear hm hpe
                rcases hmm with hm | ⟨hm, hm2⟩
                all_goals
                  go_wp2_with fail
                  refine (HC2.out _).mono ?_
                  rintro e w3 ⟨rfl, hb3⟩
                  go_wp2_with fail
                  go_ret3
                  exact ⟨rfl, below_more (bel_alloc hb2 _) hb3⟩
              · rw [if_neg hm] at hpe
                unfold resP at hpe
                simp only [ne_eq, not_true_eq_false, if_false, Prod.mk.injEq] at hpe
                obtain ⟨e1, e2, rfl⟩ := hpe
                have m3 : ¬ m < 56320 := by omega
                have m4 : ¬ 57343 < m := by omega
                have HE1 := Lib.hid e1
                have HE2 := Lib.hid e2
                clear hm e1 e2
                go_wp2_with fail
                refine (HC2.out _).mono ?_
                rintro e w3 ⟨rfl, hb3⟩
                go_wp2_with fail
                go_ret3
                refine ⟨ret3i ?_ ?_ rfl, below_more (bel_alloc hb2 _) hb3⟩
                · have := HE1.out; omega
                · have := HQA.out; have := HE2.out; omega
            · rw [if_pos hf0] at hpe
              obtain ⟨rfl, rfl, rfl⟩ := resP_bad hf0 hpe
              have hfb : (r3 != 0) = true := by simp [hf0]
              clear hf0 hpe
              go_wp2_with fail
              refine (HC2.out _).mono ?_
              rintro e w3 ⟨rfl, hb3⟩
              go_wp2_with fail
              go_ret3
              exact ⟨rfl, below_more (bel_alloc hb2 _) hb3⟩
          · by_cases hqs : q < s.size
            · have hdr := drop_at hqs
              have hqe : ((q : Int) == (s.size : Int)) = false := beq_eq_false_iff_ne.2 (by omega)
              have hj01 : j = 0 ∨ j = 1 := by omega
              rcases hj01 with rfl | rfl
              · by_cases hc : s[q].toNat = 92
                · have hcb : ((s[q].toNat : Int) != 92) = false := by rw [hc]; rfl
                  have hst := HQ.out.2
                  rw [pairG, hdr, pairP, if_neg (by omega)] at hst
                  have HST := Lib.hid hst
                  have HQA := Lib.hid HQ.out.1
                  clear hst hdr hc HQ hj2
                  go_wp2_with fail
                  refine ⟨⟨1, q + 1, by omega, by go_num, by go_num, by omega, ?_, HST.out⟩, by simp [intOf]⟩
                  have := HQA.out
                  omega
                · have hcb : ((s[q].toNat : Int) != 92) = true := by simp; omega
                  have hst := HQ.out.2
                  rw [pairG, hdr, pairP, if_pos hc] at hst
                  obtain ⟨rfl, rfl, rfl⟩ := resP_bad (by decide) hst
                  clear hst hdr hc HQ hj2
                  go_wp2_with fail
                  go_ret3
                  exact ⟨rfl, bel_alloc hb2 _⟩
              · by_cases hc : s[q].toNat = 117
                · have hcb : ((s[q].toNat : Int) != 117) = false := by rw [hc]; rfl
                  have hst := HQ.out.2
                  rw [pairG, hdr, pairQ, if_neg (by omega)] at hst
                  have HST := Lib.hid hst
                  have HQA := Lib.hid HQ.out.1
                  clear hst hdr hc HQ hj2
                  go_wp2_with fail
                  refine ⟨⟨2, q + 1, by omega, by go_num, by go_num, by omega, ?_, HST.out⟩, by simp [intOf]⟩
                  have := HQA.out
                  omega
                · have hcb : ((s[q].toNat : Int) != 117) = true := by simp; omega
                  have hst := HQ.out.2
                  rw [pairG, hdr, pairQ, if_pos hc] at hst
                  obtain ⟨rfl, rfl, rfl⟩ := resP_bad (by decide) hst
                  clear hst hdr hc HQ hj2
                  go_wp2_with fail
                  go_ret3
                  exact ⟨rfl, bel_alloc hb2 _⟩
            · have hqe : ((q : Int) == (s.size : Int)) = true := by
                rw [beq_iff_eq]; omega
              have hst := HQ.out.2
              rw [drop_none (by omega)] at hst
              have hj01 : j = 0 ∨ j = 1 := by omega
              rcases hj01 with rfl | rfl
              all_goals
                obtain ⟨rfl, rfl, rfl⟩ := resP_bad (by decide) hst
                clear hst HQ hj2
                go_wp2_with fail
                go_ret3
                exact ⟨rfl, bel_alloc hb2 _⟩
  · rw [if_pos he] at hR
    simp only [he, ne_eq, not_false_eq_true, if_true, Prod.mk.injEq] at hR
    obtain ⟨rfl, rfl, rfl⟩ := hR
    have heb : (e != 0) = true := by simp [he]
    clear he
    go_enter Tryd.func88, Tryd.ntmps88
    go_wp2_with fail
    refine (HC.out _).mono ?_
    rintro e w2 ⟨rfl, hb2⟩
    go_wp2_with fail
    go_ret3
    exact ⟨rfl, hb2⟩
end Go.Proofs.YtkflnbmbkilicaaDoor
