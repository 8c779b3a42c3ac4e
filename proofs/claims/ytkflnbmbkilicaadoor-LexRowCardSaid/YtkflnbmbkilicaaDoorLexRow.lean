/-
  The walk of the law LexRow.
-/
import Derived.Test.YtkflnbmbkilicaaDoorLexRegion
import Derived.IntWalk
import Derived.BigQuiet
namespace Go.Proofs.YtkflnbmbkilicaaDoor
open Go.RowKit

set_option maxRecDepth 100000 in
set_option maxHeartbeats 2000000 in
theorem blank7_yes (s : ByteArray) (w : World) (hs : s.size ≤ 281474976710656) (h : Hid (∀ c ∈ s.data.toList, isBlank c = true)) :
    Calls Tryd.prog 17 #[.string s] w fun e w' => e = .returned (.bool true) ∧ w = w' := by
  go_enter Tryd.func17, Tryd.ntmps17
  go_wp2_with fail
  go_loop [3] (fun i => ∃ k : Nat, k ≤ s.size ∧ i = .int .i64 k) (fun i => s.size - (intOf i).toNat)
  case atStart => exact ⟨0, Nat.zero_le _, rfl⟩
  case round =>
    obtain ⟨k, hk, rfl⟩ := hrel
    by_cases hlt : k < s.size
    · have hb := blank_cases (h.out s[k] (mem_at s k hlt))
      rcases hb with hb | hb | hb | hb
      · have e1 : ((s[k].toNat : Int) != 32) = false := by rw [hb]; rfl
        clear hb
        go_wp2_with fail
        refine ⟨⟨k + 1, by omega, by go_num⟩, by simp [intOf]; omega⟩
      · have e1 : ((s[k].toNat : Int) != 32) = true := by rw [hb]; rfl
        have e2 : ((s[k].toNat : Int) != 9) = false := by rw [hb]; rfl
        clear hb
        go_wp2_with fail
        refine ⟨⟨k + 1, by omega, by go_num⟩, by simp [intOf]; omega⟩
      · have e1 : ((s[k].toNat : Int) != 32) = true := by rw [hb]; rfl
        have e2 : ((s[k].toNat : Int) != 9) = true := by rw [hb]; rfl
        have e3 : ((s[k].toNat : Int) != 10) = false := by rw [hb]; rfl
        clear hb
        go_wp2_with fail
        refine ⟨⟨k + 1, by omega, by go_num⟩, by simp [intOf]; omega⟩
      · have e1 : ((s[k].toNat : Int) != 32) = true := by rw [hb]; rfl
        have e2 : ((s[k].toNat : Int) != 9) = true := by rw [hb]; rfl
        have e3 : ((s[k].toNat : Int) != 10) = true := by rw [hb]; rfl
        have e4 : ((s[k].toNat : Int) != 13) = false := by rw [hb]; rfl
        clear hb
        go_wp2_with fail
        refine ⟨⟨k + 1, by omega, by go_num⟩, by simp [intOf]; omega⟩
    · go_wp2_with fail
      go_ret
      exact ⟨rfl, rfl⟩
theorem blank7_q (s : ByteArray) (w : World) (hs : s.size ≤ 281474976710656) (h : Hid (∀ c ∈ s.data.toList, isBlank c = true)) :
    Calls Tryd.prog 17 #[.string s] w fun e w' => e = .returned (.bool true) ∧ w' = w := (blank7_yes s w hs h).mono fun _ _ hh => ⟨hh.1, hh.2.symm⟩
theorem MarksOwn.len_le {w : World} {B : Nat} {v : Value} {ms : List Mk} (h : MarksOwn w B v ms) : ms.length ≤ 9223372036854775807 := by
  rcases h.2 with ⟨_, h0⟩ | ⟨g, cap, cur, _, _, _, h1, h2, _⟩
  · omega
  · unfold maxLen at h2; omega
theorem allR_in {s : ByteArray} (h : s.size ≤ 65536) : allR s = allP s.data.toList 0 := by unfold allR; rw [if_neg (by omega)]
theorem drop_cons {α : Type} {l : List α} {i : Nat} (h : i < l.length) : ∃ x r, l.drop i = x :: r ∧ l[i]? = some x ∧ l.drop (i + 1) = r ∧ (r = [] ↔ i + 1 = l.length) := by
  refine ⟨l[i], l.drop (i + 1), List.drop_eq_getElem_cons h, List.getElem?_eq_getElem h, rfl, ?_⟩
  rw [List.drop_eq_nil_iff]; omega
theorem ext_size (s : ByteArray) (a b : Nat) : (s.extract a b).size = min b s.size - a := ByteArray.size_extract
set_option maxRecDepth 100000 in
set_option maxHeartbeats 30000000 in
theorem lexRow_walk (s : ByteArray) (w : World) (w0 : s.size ≤ maxLen) (henv : NumEnv w) :
    Calls Tryd.prog 6 #[.string s] w fun e w' => e = .returned (.bool true) ∧ Below w.heap.size w w' := by
  unfold maxLen at w0
  by_cases hl : 3000 < s.size
  · have hd : decide (3000 < (s.size : Int)) = true := by simp; omega
    go_enter Tryd.func6, Tryd.ntmps6
    go_wp2_with fail
    refine (awake7_any _ henv).mono ?_
    rintro e w3 ⟨rfl, hb3⟩
    go_wp2_with fail
    go_ret
    exact ⟨rfl, hb3⟩
  · have hd : decide (3000 < (s.size : Int)) = false := by simp; omega
    have hs : s.size ≤ 281474976710656 := by omega
    obtain ⟨ms, pl, er, hR⟩ : ∃ ms pl er, allR s = (ms, pl, er) := ⟨_, _, _, rfl⟩
    have hall : allP s.data.toList 0 = (ms, pl, er) := by rw [← allR_in (by omega)]; exact hR
    have hnrm := all_norm s.data.toList.length s.data.toList 0 (Nat.le_refl _)
    rw [hall, size_len] at hnrm
    simp only [] at hnrm
    have HR := Lib.hid hR
    clear hR
    by_cases he : er ≠ 0
    · obtain ⟨rfl, p1, p2⟩ := hnrm.2 he
      have heb : (er != 0) = true := by rw [bne_iff_ne]; exact he
      have p3 : decide (pl ≤ s.size) = true := by simp; omega
      clear hnrm he hall
      go_enter Tryd.func6, Tryd.ntmps6
      go_wp2_with fail
      refine (awake7_any _ henv).mono ?_
      rintro e w3 ⟨rfl, hb3⟩
      go_wp2_with fail
      refine (lexAll_any s _ hs (henv.below hb3) _ HR).mono ?_
      rintro e w4 ⟨v, rfl, hm4, hb4⟩
      obtain ⟨a4, c4, rfl⟩ := hm4.slice
      clear hm4
      go_wp2_with fail
      go_ret
      exact ⟨rfl, below_more hb3 hb4⟩
    · have he0 : er = 0 := by simpa using he
      subst he0
      have hpl := hnrm.1 rfl
      subst hpl
      have hrow0 := all_row s.data.toList _ s.data.toList 0 (Nat.le_refl _) (Nat.zero_le _) rfl (by rw [hall])
      have hne := (all_ne _ s.data.toList 0 (Nat.le_refl _) (by rw [hall])).2
      rw [hall] at hrow0 hne
      simp only [] at hrow0 hne
      have HROW := Lib.hid hrow0
      have HNE := Lib.hid hne
      clear hnrm he hall hrow0 hne
      go_enter Tryd.func6, Tryd.ntmps6
      go_wp2_with fail
      refine (awake7_any _ henv).mono ?_
      rintro e w3 ⟨rfl, hb3⟩
      go_wp2_with fail
      refine (lexAll_any s _ hs (henv.below hb3) _ HR).mono ?_
      rintro e w4 ⟨v, rfl, hm4, hb4⟩
      obtain ⟨g, cap, rfl, hg, hmk⟩ := hm4.row HNE.out
      have hlen : ms.length ≤ 9223372036854775807 := hm4.len_le
      have HMK := Lib.hid hmk
      have hb5 := below_more hb3 hb4
      clear hm4 hmk hb3 hb4 HR HNE
      go_wp2_with fail
      go_loopw [6, 7] (fun at_ i wr => ∃ k p : Nat, k ≤ ms.length ∧ p ≤ s.size ∧ i = .int .i64 k ∧ at_ = .int .i64 p ∧ Hid (RowP s.data.toList p (ms.drop k)) ∧ Below w4.heap.size w4 wr) (fun _ i _ => ms.length - (intOf i).toNat)
      case atStart => exact ⟨0, 0, by omega, by omega, rfl, rfl, by rw [List.drop_zero]; exact HROW, Below.refl _ _⟩
      case round =>
        obtain ⟨i, p, hi, hp, rfl, rfl, HRW, hBr⟩ := hrel
        by_cases hlt : i < ms.length
        · obtain ⟨m, r, e1, e2, e3, e4⟩ := drop_cons hlt
          obtain ⟨c0, c1, c2, c3, c4⟩ := (HMK.out.keep hBr) i m e2
          have hrw := HRW.out
          rw [e1] at hrw
          obtain ⟨r1, r2, r3, r4, r5, r6, r7, r8, r9, r10, -, r12⟩ := hrw
          rw [size_len] at r3
          have HREST : Hid (RowP s.data.toList m.z (ms.drop (i + 1))) := by rw [e3]; exact r12
          have HB : Hid (∀ c ∈ (s.extract p m.a).data.toList, isBlank c = true) := by
            show ∀ c ∈ _, _
            rw [Lib.extract_data]; exact r4
          obtain ⟨k, a, z, n, t⟩ := m
          simp only [] at c0 c1 c2 c3 c4 r1 r2 r3 r5 r6 r7 r8 r9 r10 HREST HB
          have i0 : (0 : Int) ≤ (i : Int) := by omega
          have j1 : decide (a < p) = false := by simp; omega
          have j2 : decide (z < a) = false := by simp; omega
          have j3 : decide (s.size < z) = false := by simp; omega
          have j4 : decide (k < 1) = false := by simp; omega
          have j5 : decide (11 < k) = false := by simp; omega
          have j6 : (p : Int) ≤ (a : Int) := by omega
          have j7 : (a : Int) ≤ (s.size : Int) := by omega
          have i1 : (i : Int) < (ms.length : Int) := by omega
          clear r4 r12 e1 e2 e3 HRW
          by_cases k11 : k = 11
          · subst k11
            have hlast := e4.1 (r5.1 rfl)
            have n0 := r9 (by decide)
            have t0 := r10 (by decide)
            subst n0 t0
            have b1 : ((i : Int) == IntKind.i64.wrap ((ms.length : Int) - 1)) = true := by rw [IntWalk.i64_in _ (by omega), beq_iff_eq]; omega
            have b1' : ((i : Int) == (ms.length : Int) - 1) = true := by rw [beq_iff_eq]; omega
            clear r5 r6 r7 r8 r9 r10 e4 hlast
            have HC := Lib.hid (fun W => blank7_q (s.extract p a) W (by rw [ext_size]; omega) HB)
            go_wp2_with fail
            refine wp_region_quiet_lit (by kernel_rfl) ((congrArg (Region.lexB .any) (by kernel_rfl : _ = rowOps)).trans rowLex) ?_
            dsimp only [List.append]
            iterate 30 (go_big_quiet_step ((go_at_call 17; exact Calls.quiet_of_same (HC.out _))))
            as_aux_lemma =>
              iterate 30 (go_big_quiet_step ((go_at_call 17; exact Calls.quiet_of_same (HC.out _))))
              as_aux_lemma =>
                iterate 30 (go_big_quiet_step ((go_at_call 17; exact Calls.quiet_of_same (HC.out _))))
                as_aux_lemma =>
                  iterate 30 (go_big_quiet_step ((go_at_call 17; exact Calls.quiet_of_same (HC.out _))))
                  as_aux_lemma =>
                    repeat (go_big_quiet_step ((go_at_call 17; exact Calls.quiet_of_same (HC.out _))))
                    refine wpQuiet_nil ?_
                    intro _ hw'
                    obtain ⟨nq, hw''⟩ := hw'
                    subst hw''
                    clear HC
                    go_wp2_with fail
                    refine ⟨?_, by simp [intOf]; omega⟩
                    first | exact ⟨i + 1, z, by omega, by omega, by go_num, rfl, HREST, bel_drewN hBr _⟩ | ((repeat apply Exists.intro); exact ⟨⟨i + 1, z, by omega, by omega, by go_num, rfl, HREST, bel_drewN hBr _⟩, rfl⟩)
          · have hnl : r ≠ [] := fun h => k11 (r5.2 h)
            have b1 : ((i : Int) == IntKind.i64.wrap ((ms.length : Int) - 1)) = false := by
              rw [IntWalk.i64_in _ (by omega), beq_eq_false_iff_ne]
              intro hh
              exact hnl (e4.2 (by omega))
            have b1' : ((i : Int) == (ms.length : Int) - 1) = false := by
              rw [beq_eq_false_iff_ne]
              intro hh
              exact hnl (e4.2 (by omega))
            have az := r8 k11
            have b2 : ((a : Int) == (z : Int)) = false := beq_eq_false_iff_ne.2 (by omega)
            by_cases k9 : k = 9
            · subst k9
              have t0 := r10 (by decide)
              subst t0
              clear r5 r6 r7 r8 r9 r10 e4 hnl k11
              have HC := Lib.hid (fun W => blank7_q (s.extract p a) W (by rw [ext_size]; omega) HB)
              go_wp2_with fail
              refine wp_region_quiet_lit (by kernel_rfl) ((congrArg (Region.lexB .any) (by kernel_rfl : _ = rowOps)).trans rowLex) ?_
              dsimp only [List.append]
              iterate 30 (go_big_quiet_step ((go_at_call 17; exact Calls.quiet_of_same (HC.out _))))
              as_aux_lemma =>
                iterate 30 (go_big_quiet_step ((go_at_call 17; exact Calls.quiet_of_same (HC.out _))))
                as_aux_lemma =>
                  iterate 30 (go_big_quiet_step ((go_at_call 17; exact Calls.quiet_of_same (HC.out _))))
                  as_aux_lemma =>
                    iterate 30 (go_big_quiet_step ((go_at_call 17; exact Calls.quiet_of_same (HC.out _))))
                    as_aux_lemma =>
                      repeat (go_big_quiet_step ((go_at_call 17; exact Calls.quiet_of_same (HC.out _))))
                      refine wpQuiet_nil ?_
                      intro _ hw'
                      obtain ⟨nq, hw''⟩ := hw'
                      subst hw''
                      clear HC
                      go_wp2_with fail
                      refine ⟨?_, by simp [intOf]; omega⟩
                      first | exact ⟨i + 1, z, by omega, by omega, by go_num, rfl, HREST, bel_drewN hBr _⟩ | ((repeat apply Exists.intro); exact ⟨⟨i + 1, z, by omega, by omega, by go_num, rfl, HREST, bel_drewN hBr _⟩, rfl⟩)
            · have n0 := r9 k9
              subst n0
              by_cases k10 : k = 10
              · subst k10
                clear r5 r6 r7 r8 r9 r10 e4 hnl k11
                have HC := Lib.hid (fun W => blank7_q (s.extract p a) W (by rw [ext_size]; omega) HB)
                go_wp2_with fail
                refine wp_region_quiet_lit (by kernel_rfl) ((congrArg (Region.lexB .any) (by kernel_rfl : _ = rowOps)).trans rowLex) ?_
                dsimp only [List.append]
                iterate 30 (go_big_quiet_step ((go_at_call 17; exact Calls.quiet_of_same (HC.out _))))
                as_aux_lemma =>
                  iterate 30 (go_big_quiet_step ((go_at_call 17; exact Calls.quiet_of_same (HC.out _))))
                  as_aux_lemma =>
                    iterate 30 (go_big_quiet_step ((go_at_call 17; exact Calls.quiet_of_same (HC.out _))))
                    as_aux_lemma =>
                      iterate 30 (go_big_quiet_step ((go_at_call 17; exact Calls.quiet_of_same (HC.out _))))
                      as_aux_lemma =>
                        repeat (go_big_quiet_step ((go_at_call 17; exact Calls.quiet_of_same (HC.out _))))
                        refine wpQuiet_nil ?_
                        intro _ hw'
                        obtain ⟨nq, hw''⟩ := hw'
                        subst hw''
                        clear HC
                        go_wp2_with fail
                        refine ⟨?_, by simp [intOf]; omega⟩
                        first | exact ⟨i + 1, z, by omega, by omega, by go_num, rfl, HREST, bel_drewN hBr _⟩ | ((repeat apply Exists.intro); exact ⟨⟨i + 1, z, by omega, by omega, by go_num, rfl, HREST, bel_drewN hBr _⟩, rfl⟩)
              · have t0 := r10 k10
                subst t0
                have f1 : (k == 11) = false := beq_eq_false_iff_ne.2 k11
                have f2 : (k != 11) = true := by rw [bne_iff_ne]; exact k11
                have f3 : (k != 9) = true := by rw [bne_iff_ne]; exact k9
                have f4 : (k != 10) = true := by rw [bne_iff_ne]; exact k10
                clear r5 r8 r9 r10 e4 hnl k11 k9 k10
                have HC := Lib.hid (fun W => blank7_q (s.extract p a) W (by rw [ext_size]; omega) HB)
                go_wp2_with fail
                refine wp_region_quiet_lit (by kernel_rfl) ((congrArg (Region.lexB .any) (by kernel_rfl : _ = rowOps)).trans rowLex) ?_
                dsimp only [List.append]
                iterate 30 (go_big_quiet_step ((go_at_call 17; exact Calls.quiet_of_same (HC.out _))))
                as_aux_lemma =>
                  iterate 30 (go_big_quiet_step ((go_at_call 17; exact Calls.quiet_of_same (HC.out _))))
                  as_aux_lemma =>
                    iterate 30 (go_big_quiet_step ((go_at_call 17; exact Calls.quiet_of_same (HC.out _))))
                    as_aux_lemma =>
                      iterate 30 (go_big_quiet_step ((go_at_call 17; exact Calls.quiet_of_same (HC.out _))))
                      as_aux_lemma =>
                        repeat (go_big_quiet_step ((go_at_call 17; exact Calls.quiet_of_same (HC.out _))))
                        refine wpQuiet_nil ?_
                        intro _ hw'
                        obtain ⟨nq, hw''⟩ := hw'
                        subst hw''
                        clear HC
                        go_wp2_with fail
                        refine ⟨?_, by simp [intOf]; omega⟩
                        first | exact ⟨i + 1, z, by omega, by omega, by go_num, rfl, HREST, bel_drewN hBr _⟩ | ((repeat apply Exists.intro); exact ⟨⟨i + 1, z, by omega, by omega, by go_num, rfl, HREST, bel_drewN hBr _⟩, rfl⟩)
        · obtain rfl : i = ms.length := by omega
          have hfin := HRW.out
          rw [List.drop_length] at hfin
          have hpe : p = s.size := by have : p = s.data.toList.length := hfin; rwa [size_len] at this
          have hpb : ((p : Int) == (s.size : Int)) = true := by rw [hpe]; simp
          clear hfin hpe HRW
          go_wp2_with fail
          go_ret
          exact ⟨rfl, below_more hb5 hBr⟩
end Go.Proofs.YtkflnbmbkilicaaDoor
