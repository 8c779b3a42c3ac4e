/-
  legateref05.said: what is said behind a backslash and a u, by the document's words.
-/
import Derived.Test.YtfdecbfcddkoiaaGreatDoorRefPut
import Derived.RegionTactic
import Derived.Deep.RegionHeld3
import Derived.IntWalk
namespace Go.Proofs.YtfdecbfcddkoiaaGreatDoor
open Go.RowKit

set_option maxRecDepth 100000 in
set_option maxHeartbeats 4000000 in
theorem refSaid_any (s : ByteArray) (a : Nat) (w : World) (hs : s.size ≤ 281474976710656) (ha : a ≤ s.size) (r1 r2 r3 : Int) (hr : Hid (codedR a (s.data.toList.drop a) = (r1, r2, r3))) :
    Calls Tryz.prog 74 #[.string s, .int .i64 a] w fun e w' => e = .returned (.tuple #[.int .i64 r1, .int .i64 r2, .int .i64 r3]) ∧ Below w.heap.size w w' := by
  obtain ⟨n, e, hf⟩ : ∃ n e, fourP (s.data.toList.drop a) = (n, e) := ⟨_, _, rfl⟩
  have HC := Lib.hid (fun W' => refNumber_any s a W' hs ha n e hf)
  have hR := hr.out
  unfold codedR codedP at hR
  rw [hf] at hR
  simp only [] at hR
  have HF := Lib.hid hf
  clear hf hr
  by_cases he : e = 0
  · subst he
    simp only [ne_eq, not_true_eq_false, if_false] at hR
    have hbd := fourP_bd (s.data.toList.drop a) (by rw [HF.out])
    rw [HF.out, List.length_drop, size_len] at hbd
    simp only [] at hbd
    obtain ⟨n0, n1, hl4⟩ := hbd
    by_cases h1 : n < 55296 ∨ 57343 < n
    · rw [if_pos h1] at hR
      simp only [not_true_eq_false, if_false, Prod.mk.injEq] at hR
      obtain ⟨rfl, h2, rfl⟩ := hR
      have H2 := Lib.hid h2
      clear h2
      by_cases h3 : n < 55296
      · go_enter Tryz.func74, Tryz.ntmps74
        go_wp2_with fail
        refine (HC.out _).mono ?_
        rintro e w2 ⟨rfl, rfl⟩
        go_wp2_with fail
        go_ret3
        exact ⟨ret3i rfl (by rw [← H2.out]; rfl) rfl, Below.refl _ _⟩
      · have h4 : 57343 < n := by omega
        clear h1
        go_enter Tryz.func74, Tryz.ntmps74
        go_wp2_with fail
        refine (HC.out _).mono ?_
        rintro e w2 ⟨rfl, rfl⟩
        go_wp2_with fail
        go_ret3
        exact ⟨ret3i rfl (by rw [← H2.out]; rfl) rfl, Below.refl _ _⟩
    · rw [if_neg h1] at hR
      have k1 : ¬ n < 55296 := by omega
      have k2 : ¬ 57343 < n := by omega
      clear h1
      by_cases h3 : 56320 ≤ n
      · rw [if_pos h3] at hR
        obtain ⟨rfl, rfl, rfl⟩ := resP_bad (a := a) (by decide) hR
        go_enter Tryz.func74, Tryz.ntmps74
        go_wp2_with fail
        refine (HC.out _).mono ?_
        rintro e w2 ⟨rfl, rfl⟩
        go_wp2_with fail
        go_ret3
        exact ⟨rfl, Below.refl _ _⟩
      · rw [if_neg h3] at hR
        rw [List.drop_drop] at hR
        have HR : Hid (resP a (pairG n 0 (s.data.toList.drop (a + 4 + 0))) = (r1, r2, r3)) := hR
        clear hR
        go_enter Tryz.func74, Tryz.ntmps74
        go_wp2_with fail
        refine (HC.out _).mono ?_
        rintro e w2 ⟨rfl, rfl⟩
        go_wp2_with fail
        go_loopw [9] (fun i wr => ∃ j : Nat, j ≤ 2 ∧ i = .int .i64 j ∧ a + 4 + j ≤ s.size ∧ Hid (resP a (pairG n j (s.data.toList.drop (a + 4 + j))) = (r1, r2, r3)) ∧ Below w.heap.size w wr) (fun i _ => 2 - (intOf i).toNat)
        case atStart => exact ⟨0, by omega, rfl, by omega, HR, Below.refl _ _⟩
        case round =>
          obtain ⟨j, hj, rfl, hq, HQ, hBr⟩ := hrel
          clear HR
          by_cases hj2 : j = 2
          · subst hj2
            have hpe : resP a (pairE n (s.data.toList.drop (a + 4 + 2))) = (r1, r2, r3) := HQ.out
            obtain ⟨m, f, hf2⟩ : ∃ m f, fourP (s.data.toList.drop (a + 4 + 2)) = (m, f) := ⟨_, _, rfl⟩
            have hbd := fourP_bd (s.data.toList.drop (a + 4 + 2))
            rw [hf2, List.length_drop, size_len] at hbd
            have HC2 := Lib.hid (fun W' => refNumber_any s (a + 4 + 2) W' hs hq m f hf2)
            unfold pairE at hpe
            rw [hf2] at hpe
            simp only [] at hpe hbd
            have HBD := Lib.hid hbd
            clear hbd hf2 HQ
            by_cases hf0 : f = 0
            · subst hf0
              obtain ⟨m0, m1, m2⟩ := HBD.out rfl
              simp only [ne_eq, not_true_eq_false, if_false] at hpe
              by_cases hm : m < 56320 ∨ 57343 < m
              · rw [if_pos hm] at hpe
                obtain ⟨rfl, rfl, rfl⟩ := resP_bad (by decide) hpe
                have hmm : m < 56320 ∨ (¬ m < 56320 ∧ 57343 < m) := by omega
                clear hm hpe
                rcases hmm with hm | ⟨hm, hm2⟩
                all_goals
                  go_wp2_with fail
                  refine (HC2.out _).mono ?_
                  rintro e w3 ⟨rfl, rfl⟩
                  go_wp2_with fail
                  go_ret3
                  exact ⟨rfl, hBr⟩
              · rw [if_neg hm] at hpe
                unfold resP at hpe
                simp only [ne_eq, not_true_eq_false, if_false, Prod.mk.injEq] at hpe
                obtain ⟨e1, e2, rfl⟩ := hpe
                have m3 : ¬ m < 56320 := by omega
                have m4 : ¬ 57343 < m := by omega
                have HE1 := Lib.hid e1
                have HE2 := Lib.hid e2
                clear hm e1 e2
                go_wp2_with fail
                refine (HC2.out _).mono ?_
                rintro e w3 ⟨rfl, rfl⟩
                go_wp2_with fail
                go_ret3
                refine ⟨ret3i ?_ ?_ rfl, hBr⟩
                · have := HE1.out; omega
                · have := HE2.out; omega
            · rw [if_pos hf0] at hpe
              obtain ⟨rfl, rfl, rfl⟩ := resP_bad hf0 hpe
              have hfb : (r3 != 0) = true := by simp [hf0]
              clear hf0 hpe
              go_wp2_with fail
              refine (HC2.out _).mono ?_
              rintro e w3 ⟨rfl, rfl⟩
              go_wp2_with fail
              go_ret3
              exact ⟨rfl, hBr⟩
          · by_cases hqs : a + 4 + j < s.size
            · have hdr := drop_at hqs
              have hj01 : j = 0 ∨ j = 1 := by omega
              have hst := HQ.out
              rw [hdr] at hst
              clear hdr HQ
              rcases hj01 with rfl | rfl
              · have e0 : IntKind.i64.wrap ((a : Int) + 4) = (a : Int) + 4 := IntWalk.i64_in _ (by omega)
                have e1 : 0 ≤ (a : Int) + 4 := by omega
                have e2 : (a : Int) + 4 < (s.size : Int) := by omega
                have e3 : ((a : Int) + 4).toNat = a + 4 := by omega
                by_cases hc : s[a + 4].toNat = 92
                · have hcb : ((s[a + 4].toNat : Int) != 92) = false := by rw [hc]; rfl
                  have hst2 := hst
                  rw [pairG, pairP, if_neg (fun hn => hn hc)] at hst2
                  have HST := Lib.hid hst2
                  clear hst hst2 hc hj2
                  go_wp2_with fail
                  go_region
                  all_goals go_wp2_with fail
                  all_goals exact ⟨⟨1, by omega, rfl, by omega, HST, (by first | exact bel_drew (bel_alloc hBr _) | exact bel_alloc (bel_drew hBr) _)⟩, by simp [intOf]⟩
                · have hcb : ((s[a + 4].toNat : Int) != 92) = true := by rw [bne_iff_ne]; omega
                  rw [pairG, pairP, if_pos hc] at hst
                  obtain ⟨rfl, rfl, rfl⟩ := resP_bad (by decide) hst
                  clear hst hc hj2
                  go_wp2_with fail
                  go_region
                  all_goals go_wp2_with fail
                  all_goals go_ret3
                  all_goals exact ⟨rfl, (by first | exact bel_drew (bel_alloc hBr _) | exact bel_alloc (bel_drew hBr) _)⟩
              · have e0 : IntKind.i64.wrap ((a : Int) + 4 + 1) = (a : Int) + 4 + 1 := IntWalk.i64_in _ (by omega)
                have e1 : 0 ≤ (a : Int) + 4 + 1 := by omega
                have e2 : (a : Int) + 4 + 1 < (s.size : Int) := by omega
                have e3 : ((a : Int) + 4 + 1).toNat = a + 4 + 1 := by omega
                by_cases hc : s[a + 4 + 1].toNat = 117
                · have hcb : ((s[a + 4 + 1].toNat : Int) != 117) = false := by rw [hc]; rfl
                  have hst2 := hst
                  rw [pairG, pairQ, if_neg (fun hn => hn hc)] at hst2
                  have HST := Lib.hid hst2
                  clear hst hst2 hc hj2
                  go_wp2_with fail
                  go_region
                  all_goals go_wp2_with fail
                  all_goals exact ⟨⟨2, by omega, rfl, by omega, HST, (by first | exact bel_drew (bel_alloc hBr _) | exact bel_alloc (bel_drew hBr) _)⟩, by simp [intOf]⟩
                · have hcb : ((s[a + 4 + 1].toNat : Int) != 117) = true := by rw [bne_iff_ne]; omega
                  rw [pairG, pairQ, if_pos hc] at hst
                  obtain ⟨rfl, rfl, rfl⟩ := resP_bad (by decide) hst
                  clear hst hc hj2
                  go_wp2_with fail
                  go_region
                  all_goals go_wp2_with fail
                  all_goals go_ret3
                  all_goals exact ⟨rfl, (by first | exact bel_drew (bel_alloc hBr _) | exact bel_alloc (bel_drew hBr) _)⟩
            · have hst := HQ.out
              rw [drop_none (by omega)] at hst
              have hj01 : j = 0 ∨ j = 1 := by omega
              rcases hj01 with rfl | rfl
              all_goals
                obtain ⟨rfl, rfl, rfl⟩ := resP_bad (by decide) hst
                clear hst HQ hj2
                go_wp2_with fail
                go_ret3
                exact ⟨rfl, hBr⟩
  · rw [if_pos he] at hR
    simp only [he, ne_eq, not_false_eq_true, if_true, Prod.mk.injEq] at hR
    obtain ⟨rfl, rfl, rfl⟩ := hR
    have heb : (e != 0) = true := by simp [he]
    clear he
    go_enter Tryz.func74, Tryz.ntmps74
    go_wp2_with fail
    refine (HC.out _).mono ?_
    rintro e w2 ⟨rfl, rfl⟩
    go_wp2_with fail
    go_ret3
    exact ⟨rfl, Below.refl _ _⟩
end Go.Proofs.YtfdecbfcddkoiaaGreatDoor
