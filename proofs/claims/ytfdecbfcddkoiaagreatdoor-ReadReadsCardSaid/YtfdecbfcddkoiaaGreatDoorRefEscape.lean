/-
  legateref05.escape: the rune that is said behind a backslash, by the document's words.
-/
import Derived.Test.YtfdecbfcddkoiaaGreatDoorRefSaid
namespace Go.Proofs.YtfdecbfcddkoiaaGreatDoor
open Go.RowKit

def escLR : List (Nat × Int) := [(34, 34), (92, 92), (47, 47), (98, 8), (102, 12), (110, 10), (114, 13), (116, 9)]
def escFind : List (Nat × Int) → Nat → Int
  | [], _ => -1
  | (a, v) :: r, c => if c = a then v else escFind r c
theorem escV_find (c : UInt8) : escFind escLR c.toNat = escV c := by
  unfold escV escLR
  simp only [escFind]
  by_cases h1 : c.toNat = 34
  · rw [if_pos h1, if_pos (by omega), h1]; rfl
  · rw [if_neg h1]
    by_cases h2 : c.toNat = 92
    · rw [if_pos h2, if_pos (by omega), h2]; rfl
    · rw [if_neg h2]
      by_cases h3 : c.toNat = 47
      · rw [if_pos h3, if_pos (by omega), h3]; rfl
      · rw [if_neg h3, if_neg (show ¬ (c.toNat = 34 ∨ c.toNat = 92 ∨ c.toNat = 47) by omega)]
theorem resP_ok {a k : Nat} {v r1 r2 r3 : Int} (h : resP a (v, k, 0) = (r1, r2, r3)) : r1 = v ∧ r2 = (a : Int) + k ∧ r3 = 0 := by
  unfold resP at h
  simp only [ne_eq, not_true_eq_false, if_false, Prod.mk.injEq] at h
  exact ⟨h.1.symm, h.2.1.symm, h.2.2.symm⟩
theorem resP_esc (a : Nat) (r : List UInt8) : resP a (if (codedP r).2.2 ≠ 0 then (0, 0, (codedP r).2.2) else ((codedP r).1, (codedP r).2.1 + 1, 0)) = codedR (a + 1) r := by
  unfold resP codedR
  by_cases h : (codedP r).2.2 ≠ 0
  · simp only [if_pos h]
  · simp only [if_neg h, ne_eq, not_true_eq_false, if_false, Prod.mk.injEq, true_and, and_true]
    omega
def escF (k : Nat) (c : UInt8) : Int := escFind (escLR.drop k) c.toNat
set_option maxRecDepth 100000 in
set_option maxHeartbeats 4000000 in
theorem refEscape_any (s : ByteArray) (a : Nat) (w : World) (hs : s.size ≤ 281474976710656) (ha : a ≤ s.size) (r1 r2 r3 : Int) (hr : Hid (resP a (escP (s.data.toList.drop a)) = (r1, r2, r3))) :
    Calls Tryz.prog 62 #[.string s, .int .i64 a] w fun e w' => e = .returned (.tuple #[.int .i64 r1, .int .i64 r2, .int .i64 r3]) ∧ Below w.heap.size w w' := by
  by_cases hlt : a < s.size
  · have h := hr.out
    rw [drop_at hlt, escP] at h
    by_cases hu : s[a].toNat = 117
    · rw [if_pos hu, resP_esc] at h
      have HC := Lib.hid (fun W => refSaid_any s (a + 1) W hs (by omega) r1 r2 r3 h)
      have hub : ((s[a].toNat : Int) == 117) = true := by rw [hu]; rfl
      clear h hr hu
      go_enter Tryz.func62, Tryz.ntmps62
      go_wp2_with fail
      refine (HC.out _).mono ?_
      rintro e w2 ⟨rfl, hb2⟩
      go_wp2_with fail
      go_ret3
      exact ⟨rfl, hb2⟩
    · rw [if_neg hu] at h
      have hub : ((s[a].toNat : Int) == 117) = false := beq_eq_false_iff_ne.2 (by omega)
      have hf0 := escV_find s[a]
      have HF0 : Hid (escF 0 s[a] = escV s[a]) := hf0
      obtain ⟨v, hv⟩ : ∃ v, escV s[a] = v := ⟨_, rfl⟩
      rw [hv] at h HF0
      have HH := Lib.hid h
      have hai : (a : Int) < (s.size : Int) := by omega
      have hai0 : (0 : Int) ≤ (a : Int) := by omega
      clear h hr hu hf0 hv
      go_enter Tryz.func62, Tryz.ntmps62
      go_wp2_with fail
      have hal : Below w.heap.size w (w.alloc (.cells #[.int .i64 34, .int .i64 92, .int .i64 47, .int .i64 8, .int .i64 12, .int .i64 10, .int .i64 13, .int .i64 9] 3)) := bel_alloc (Below.refl _ _) _
      have hcs := fun i => cell_al_eq w #[.int .i64 34, .int .i64 92, .int .i64 47, .int .i64 8, .int .i64 12, .int .i64 10, .int .i64 13, .int .i64 9] 3 w.heap.size i rfl
      have hsz : w.heap.size < (w.alloc (.cells #[.int .i64 34, .int .i64 92, .int .i64 47, .int .i64 8, .int .i64 12, .int .i64 10, .int .i64 13, .int .i64 9] 3)).heap.size := by rw [size_al]; omega
      generalize w.alloc (.cells #[.int .i64 34, .int .i64 92, .int .i64 47, .int .i64 8, .int .i64 12, .int .i64 10, .int .i64 13, .int .i64 9] 3) = w1 at hal hcs hsz ⊢
      have HCS := Lib.hid hcs
      clear hcs
      go_loopw [9] (fun i wr => ∃ j : Nat, j ≤ 8 ∧ i = .int .i64 j ∧ Hid (escF j s[a] = v) ∧ Below w1.heap.size w1 wr) (fun i _ => 8 - (intOf i).toNat)
      case atStart => exact ⟨0, by omega, rfl, HF0, Below.refl _ _⟩
      case round =>
        obtain ⟨j, hj, rfl, HQ, hBr⟩ := hrel
        clear HF0
        have hj8 : j = 0 ∨ j = 1 ∨ j = 2 ∨ j = 3 ∨ j = 4 ∨ j = 5 ∨ j = 6 ∨ j = 7 ∨ j = 8 := by omega
        rcases hj8 with rfl | rfl | rfl | rfl | rfl | rfl | rfl | rfl | rfl
        · have hq : (if s[a].toNat = 34 then (34 : Int) else escF 1 s[a]) = v := HQ.out
          have hk : ((⟨#[34, 92, 47, 98, 102, 110, 114, 116]⟩ : ByteArray)[0]'(by decide)).toNat = 34 := rfl
          by_cases hc : s[a].toNat = 34
          · rw [if_pos hc] at hq
            subst hq
            obtain ⟨rfl, rfl, rfl⟩ := resP_ok HH.out
            clear HQ HH
            have hcell : wr.cell? ⟨w.heap.size, 0, none⟩ = some (.int .i64 34) := by rw [(bcell hBr).1 _ _ hsz]; exact HCS.out 0
            go_wp2_with fail
            go_region
            all_goals go_wp2_with fail
            all_goals go_ret3
            all_goals exact ⟨rfl, below_more hal (bel_drew hBr)⟩
          · rw [if_neg hc] at hq
            have HST := Lib.hid hq
            have hcb : ((s[a].toNat : Int) == 34) = false := beq_eq_false_iff_ne.2 (by omega)
            clear HQ hq hc
            go_wp2_with fail
            go_region
            all_goals go_wp2_with fail
            all_goals exact ⟨⟨1, by omega, rfl, HST, bel_drew hBr⟩, by simp [intOf]⟩
        · have hq : (if s[a].toNat = 92 then (92 : Int) else escF 2 s[a]) = v := HQ.out
          have hk : ((⟨#[34, 92, 47, 98, 102, 110, 114, 116]⟩ : ByteArray)[1]'(by decide)).toNat = 92 := rfl
          by_cases hc : s[a].toNat = 92
          · rw [if_pos hc] at hq
            subst hq
            obtain ⟨rfl, rfl, rfl⟩ := resP_ok HH.out
            clear HQ HH
            have hcell : wr.cell? ⟨w.heap.size, 1, none⟩ = some (.int .i64 92) := by rw [(bcell hBr).1 _ _ hsz]; exact HCS.out 1
            go_wp2_with fail
            go_region
            all_goals go_wp2_with fail
            all_goals go_ret3
            all_goals exact ⟨rfl, below_more hal (bel_drew hBr)⟩
          · rw [if_neg hc] at hq
            have HST := Lib.hid hq
            have hcb : ((s[a].toNat : Int) == 92) = false := beq_eq_false_iff_ne.2 (by omega)
            clear HQ hq hc
            go_wp2_with fail
            go_region
            all_goals go_wp2_with fail
            all_goals exact ⟨⟨2, by omega, rfl, HST, bel_drew hBr⟩, by simp [intOf]⟩
        · have hq : (if s[a].toNat = 47 then (47 : Int) else escF 3 s[a]) = v := HQ.out
          have hk : ((⟨#[34, 92, 47, 98, 102, 110, 114, 116]⟩ : ByteArray)[2]'(by decide)).toNat = 47 := rfl
          by_cases hc : s[a].toNat = 47
          · rw [if_pos hc] at hq
            subst hq
            obtain ⟨rfl, rfl, rfl⟩ := resP_ok HH.out
            clear HQ HH
            have hcell : wr.cell? ⟨w.heap.size, 2, none⟩ = some (.int .i64 47) := by rw [(bcell hBr).1 _ _ hsz]; exact HCS.out 2
            go_wp2_with fail
            go_region
            all_goals go_wp2_with fail
            all_goals go_ret3
            all_goals exact ⟨rfl, below_more hal (bel_drew hBr)⟩
          · rw [if_neg hc] at hq
            have HST := Lib.hid hq
            have hcb : ((s[a].toNat : Int) == 47) = false := beq_eq_false_iff_ne.2 (by omega)
            clear HQ hq hc
            go_wp2_with fail
            go_region
            all_goals go_wp2_with fail
            all_goals exact ⟨⟨3, by omega, rfl, HST, bel_drew hBr⟩, by simp [intOf]⟩
        · have hq : (if s[a].toNat = 98 then (8 : Int) else escF 4 s[a]) = v := HQ.out
          have hk : ((⟨#[34, 92, 47, 98, 102, 110, 114, 116]⟩ : ByteArray)[3]'(by decide)).toNat = 98 := rfl
          by_cases hc : s[a].toNat = 98
          · rw [if_pos hc] at hq
            subst hq
            obtain ⟨rfl, rfl, rfl⟩ := resP_ok HH.out
            clear HQ HH
            have hcell : wr.cell? ⟨w.heap.size, 3, none⟩ = some (.int .i64 8) := by rw [(bcell hBr).1 _ _ hsz]; exact HCS.out 3
            go_wp2_with fail
            go_region
            all_goals go_wp2_with fail
            all_goals go_ret3
            all_goals exact ⟨rfl, below_more hal (bel_drew hBr)⟩
          · rw [if_neg hc] at hq
            have HST := Lib.hid hq
            have hcb : ((s[a].toNat : Int) == 98) = false := beq_eq_false_iff_ne.2 (by omega)
            clear HQ hq hc
            go_wp2_with fail
            go_region
            all_goals go_wp2_with fail
            all_goals exact ⟨⟨4, by omega, rfl, HST, bel_drew hBr⟩, by simp [intOf]⟩
        · have hq : (if s[a].toNat = 102 then (12 : Int) else escF 5 s[a]) = v := HQ.out
          have hk : ((⟨#[34, 92, 47, 98, 102, 110, 114, 116]⟩ : ByteArray)[4]'(by decide)).toNat = 102 := rfl
          by_cases hc : s[a].toNat = 102
          · rw [if_pos hc] at hq
            subst hq
            obtain ⟨rfl, rfl, rfl⟩ := resP_ok HH.out
            clear HQ HH
            have hcell : wr.cell? ⟨w.heap.size, 4, none⟩ = some (.int .i64 12) := by rw [(bcell hBr).1 _ _ hsz]; exact HCS.out 4
            go_wp2_with fail
            go_region
            all_goals go_wp2_with fail
            all_goals go_ret3
            all_goals exact ⟨rfl, below_more hal (bel_drew hBr)⟩
          · rw [if_neg hc] at hq
            have HST := Lib.hid hq
            have hcb : ((s[a].toNat : Int) == 102) = false := beq_eq_false_iff_ne.2 (by omega)
            clear HQ hq hc
            go_wp2_with fail
            go_region
            all_goals go_wp2_with fail
            all_goals exact ⟨⟨5, by omega, rfl, HST, bel_drew hBr⟩, by simp [intOf]⟩
        · have hq : (if s[a].toNat = 110 then (10 : Int) else escF 6 s[a]) = v := HQ.out
          have hk : ((⟨#[34, 92, 47, 98, 102, 110, 114, 116]⟩ : ByteArray)[5]'(by decide)).toNat = 110 := rfl
          by_cases hc : s[a].toNat = 110
          · rw [if_pos hc] at hq
            subst hq
            obtain ⟨rfl, rfl, rfl⟩ := resP_ok HH.out
            clear HQ HH
            have hcell : wr.cell? ⟨w.heap.size, 5, none⟩ = some (.int .i64 10) := by rw [(bcell hBr).1 _ _ hsz]; exact HCS.out 5
            go_wp2_with fail
            go_region
            all_goals go_wp2_with fail
            all_goals go_ret3
            all_goals exact ⟨rfl, below_more hal (bel_drew hBr)⟩
          · rw [if_neg hc] at hq
            have HST := Lib.hid hq
            have hcb : ((s[a].toNat : Int) == 110) = false := beq_eq_false_iff_ne.2 (by omega)
            clear HQ hq hc
            go_wp2_with fail
            go_region
            all_goals go_wp2_with fail
            all_goals exact ⟨⟨6, by omega, rfl, HST, bel_drew hBr⟩, by simp [intOf]⟩
        · have hq : (if s[a].toNat = 114 then (13 : Int) else escF 7 s[a]) = v := HQ.out
          have hk : ((⟨#[34, 92, 47, 98, 102, 110, 114, 116]⟩ : ByteArray)[6]'(by decide)).toNat = 114 := rfl
          by_cases hc : s[a].toNat = 114
          · rw [if_pos hc] at hq
            subst hq
            obtain ⟨rfl, rfl, rfl⟩ := resP_ok HH.out
            clear HQ HH
            have hcell : wr.cell? ⟨w.heap.size, 6, none⟩ = some (.int .i64 13) := by rw [(bcell hBr).1 _ _ hsz]; exact HCS.out 6
            go_wp2_with fail
            go_region
            all_goals go_wp2_with fail
            all_goals go_ret3
            all_goals exact ⟨rfl, below_more hal (bel_drew hBr)⟩
          · rw [if_neg hc] at hq
            have HST := Lib.hid hq
            have hcb : ((s[a].toNat : Int) == 114) = false := beq_eq_false_iff_ne.2 (by omega)
            clear HQ hq hc
            go_wp2_with fail
            go_region
            all_goals go_wp2_with fail
            all_goals exact ⟨⟨7, by omega, rfl, HST, bel_drew hBr⟩, by simp [intOf]⟩
        · have hq : (if s[a].toNat = 116 then (9 : Int) else escF 8 s[a]) = v := HQ.out
          have hk : ((⟨#[34, 92, 47, 98, 102, 110, 114, 116]⟩ : ByteArray)[7]'(by decide)).toNat = 116 := rfl
          by_cases hc : s[a].toNat = 116
          · rw [if_pos hc] at hq
            subst hq
            obtain ⟨rfl, rfl, rfl⟩ := resP_ok HH.out
            clear HQ HH
            have hcell : wr.cell? ⟨w.heap.size, 7, none⟩ = some (.int .i64 9) := by rw [(bcell hBr).1 _ _ hsz]; exact HCS.out 7
            go_wp2_with fail
            go_region
            all_goals go_wp2_with fail
            all_goals go_ret3
            all_goals exact ⟨rfl, below_more hal (bel_drew hBr)⟩
          · rw [if_neg hc] at hq
            have HST := Lib.hid hq
            have hcb : ((s[a].toNat : Int) == 116) = false := beq_eq_false_iff_ne.2 (by omega)
            clear HQ hq hc
            go_wp2_with fail
            go_region
            all_goals go_wp2_with fail
            all_goals exact ⟨⟨8, by omega, rfl, HST, bel_drew hBr⟩, by simp [intOf]⟩
        · have hq : (-1 : Int) = v := HQ.out
          subst hq
          have h := HH.out
          rw [if_pos (by decide)] at h
          obtain ⟨rfl, rfl, rfl⟩ := resP_bad (by decide) h
          clear h HQ HH
          go_wp2_with fail
          go_ret3
          exact ⟨rfl, below_more hal hBr⟩
  · have h := hr.out
    rw [drop_none (by omega), escP] at h
    obtain ⟨rfl, rfl, rfl⟩ := resP_bad (by decide) h
    clear h hr
    go_enter Tryz.func62, Tryz.ntmps62
    go_wp2_with fail
    go_ret3
    exact ⟨rfl, Below.refl _ _⟩
end Go.Proofs.YtfdecbfcddkoiaaGreatDoor
