/-
  legateref07: word, Next: the mark that stands at a place of a text, by the document's words.
-/
import Derived.Test.YtfdecbfcddkoiaaGreatDoorRefText
import Derived.Test.YtfdecbfcddkoiaaGreatDoorLexAll
import Derived.Test.YtfdecbfcddkoiaaGreatDoorNumRefRead
namespace Go.Proofs.YtfdecbfcddkoiaaGreatDoor
open Go.RowKit

set_option maxRecDepth 100000 in
set_option maxHeartbeats 2000000 in
theorem refWord_any (s : ByteArray) (a : Nat) (w : World) (hs : s.size ≤ 281474976710656) (ha : a ≤ s.size) (z : Nat) (hz : Hid (a + ((s.data.toList.drop a).takeWhile isLow).length = z)) :
    Calls Tryz.prog 46 #[.string s, .int .i64 a] w fun e w' => e = .returned (.int .i64 z) ∧ w = w' := by
  go_enter Tryz.func46, Tryz.ntmps46
  go_wp2_with fail
  go_loop [1] (fun p => ∃ q : Nat, a ≤ q ∧ q ≤ s.size ∧ p = .int .i64 q ∧ Hid ((s.data.toList.drop a).takeWhile isLow = (s.data.toList.drop a).take (q - a) ++ (s.data.toList.drop q).takeWhile isLow)) (fun p => s.size - (intOf p).toNat)
  case atStart => exact ⟨a, Nat.le_refl _, ha, rfl, by show _ = _; simp⟩
  case round =>
    obtain ⟨q, haq, hq, rfl, HQ⟩ := hrel
    by_cases hlt : q < s.size
    · by_cases hb : isLow s[q] = true
      · obtain ⟨b1, b2⟩ := low_yes hb
        have HST := Lib.hid (word_step haq hlt hb HQ.out)
        clear hb HQ
        go_wp2_with fail
        refine ⟨⟨q + 1, by omega, by omega, by go_num, HST⟩, by simp [intOf]; omega⟩
      · have hb' : isLow s[q] = false := by simpa using hb
        have hno := low_no hb'
        have hW := word_end haq hq (fun hh => hb') HQ.out
        have hqz : q = z := by rw [hW.2]; exact hz.out
        subst hqz
        clear hb hb' hW HQ hz
        rcases hno with h1 | ⟨h1, h2⟩
        all_goals
          go_wp2_with fail
          go_ret
          exact ⟨rfl, rfl⟩
    · have hW := word_end haq hq (fun hh => absurd hh hlt) HQ.out
      have hqz : q = z := by rw [hW.2]; exact hz.out
      subst hqz
      clear hW HQ hz
      go_wp2_with fail
      go_ret
      exact ⟨rfl, rfl⟩
def sgnL : List Nat := [123, 125, 91, 93, 44, 58]
def sgnFind : List Nat → Int → Nat → Int
  | [], _, _ => 0
  | a :: r, i, c => if c = a then i else sgnFind r (i + 1) c
def sgnF (k : Nat) (c : UInt8) : Int := sgnFind (sgnL.drop k) ((k : Int) + 1) c.toNat
theorem sgnF_0 (c : UInt8) : sgnF 0 c = signOf c := by
  unfold sgnF sgnL signOf
  simp only [List.drop_zero, sgnFind]
  rfl
set_option maxRecDepth 100000 in
set_option maxHeartbeats 2000000 in
theorem refNext7_out (s : ByteArray) (a : Int) (w : World) (h : a < 0 ∨ (s.size : Int) < a) :
    Calls Tryz.prog 29 #[.string s, .int .i64 a] w fun e w' => e = .returned (.tuple #[.agg #[.int .u8 0, .int .i64 0, .int .i64 0, .int .i64 0, .string ⟨#[]⟩], .int .i64 1]) ∧ Below w.heap.size w w' := by
  have h2 : a < 0 ∨ (¬ a < 0 ∧ (s.size : Int) < a) := by omega
  clear h
  rcases h2 with h | ⟨h, h'⟩
  all_goals
    go_enter Tryz.func29, Tryz.ntmps29
    go_wp2_with fail
    exact bodyPost_ret (v := .tuple #[.agg #[.int .u8 0, .int .i64 0, .int .i64 0, .int .i64 0, .string ⟨#[]⟩], .int .i64 1]) (by simp [results, Tryz.results29, go_sem]) rfl ⟨rfl, bel_alloc (Below.refl _ _) _⟩
/-- A mark of the call's own, before anything is written. -/
def mark7 : Array Value := #[.int .u8 0, .int .i64 0, .int .i64 0, .int .i64 0, .string ⟨#[]⟩]
theorem numFirst_cases {c : UInt8} (h : numFirst c = true) : (48 ≤ c.toNat ∧ c.toNat ≤ 57) ∨ c.toNat = 45 ∨ c.toNat = 43 ∨ c.toNat = 46 := by
  simp [numFirst, Nm.dg] at h
  omega
theorem numFirst_no {c : UInt8} (h : numFirst c = false) : ¬ (48 ≤ c.toNat ∧ c.toNat ≤ 57) ∧ c.toNat ≠ 45 ∧ c.toNat ≠ 43 ∧ c.toNat ≠ 46 := by
  simp [numFirst, Nm.dg] at h
  omega
theorem tokP_at {s : ByteArray} {q : Nat} (h : q < s.size) : tokP (s.data.toList.drop q) = if signOf s[q] ≠ 0 then ⟨signOf s[q], 1, 0, [], 0⟩ else if s[q].toNat = 34 then textP (s.data.toList.drop (q + 1)) else if numFirst s[q] then numP (s.data.toList.drop q) else wordP (s.data.toList.drop q) := by
  rw [drop_at h, tokP]
set_option maxRecDepth 100000 in
set_option maxHeartbeats 8000000 in
theorem refNext7_in (s : ByteArray) (a : Nat) (w : World) (hs : s.size ≤ 281474976710656) (ha : a ≤ s.size) (k x z n : Int) (t : ByteArray) (er : Int) (hr : Hid (resV (nextM s.data.toList a) = (k, x, z, n, t, er))) :
    Calls Tryz.prog 29 #[.string s, .int .i64 a] w fun e w' => e = .returned (.tuple #[.agg #[.int .u8 k, .int .i64 x, .int .i64 z, .int .i64 n, .string t], .int .i64 er]) ∧ Below w.heap.size w w' := by
  obtain ⟨q, hq⟩ : ∃ q, a + blanks (s.data.toList.drop a) = q := ⟨_, rfl⟩
  have hqs : q ≤ s.size := by have := blanks_le (s.data.toList.drop a); rw [List.length_drop, size_len] at this; omega
  have h := hr.out
  rw [nextM_eq, hq] at h
  have HS := Lib.hid (fun W => behind_any s a W hs ha q hq)
  have hng : decide ((a : Int) < 0) = false := by simp
  have hlt : ¬ (s.size : Int) < (a : Int) := by omega
  clear hr hq
  by_cases hend : q = s.size
  · subst hend
    rw [drop_none (Nat.le_refl _)] at h
    obtain ⟨rfl, rfl, hz, rfl, rfl, rfl⟩ := resV_ok h
    have hz' : z = (s.size : Int) := by rw [hz]; simp
    subst hz'
    clear h hz
    go_enter Tryz.func29, Tryz.ntmps29
    go_wp2_with fail
    refine (HS.out _).mono ?_
    rintro e w2 ⟨rfl, rfl⟩
    go_wp2_with fail
    exact bodyPost_ret (v := .tuple #[.agg #[.int .u8 11, .int .i64 s.size, .int .i64 s.size, .int .i64 0, .string ⟨#[]⟩], .int .i64 0]) (by simp [results, Tryz.results29, go_sem]) rfl ⟨rfl, bel_alloc (Below.refl _ _) _⟩
  · have hq1 : q < s.size := by omega
    have hqe : ((q : Int) == (s.size : Int)) = false := beq_eq_false_iff_ne.2 (by omega)
    have q0 : (0 : Int) ≤ (q : Int) := by omega
    have q2 : (q : Int) < (s.size : Int) := by omega
    rw [tokP_at hq1] at h
    have hf0 := sgnF_0 s[q]
    obtain ⟨v, hv⟩ : ∃ v, signOf s[q] = v := ⟨_, rfl⟩
    rw [hv] at h hf0
    have HH := Lib.hid h
    have HF0 := Lib.hid hf0
    clear h hend hf0 hv
    go_enter Tryz.func29, Tryz.ntmps29
    go_wp2_with fail
    refine (HS.out _).mono ?_
    rintro e w2 ⟨rfl, rfl⟩
    go_wp2_with fail
    go_loopw [7] (fun i wr => ∃ j : Nat, j ≤ 6 ∧ i = .int .i64 j ∧ Hid (sgnF j s[q] = v) ∧ Below (w.alloc (.cells #[.int .u8 0, .int .i64 0, .int .i64 0, .int .i64 0, .string ⟨#[]⟩] 50)).heap.size (w.alloc (.cells #[.int .u8 0, .int .i64 0, .int .i64 0, .int .i64 0, .string ⟨#[]⟩] 50)) wr) (fun i _ => 6 - (intOf i).toNat)
    case atStart => exact ⟨0, by omega, rfl, HF0, Below.refl _ _⟩
    case round =>
      obtain ⟨j, hj, rfl, HQ, hBr⟩ := hrel
      clear HF0
      have hB0 : Below w.heap.size w wr := below_more (bel_alloc (Below.refl _ _) _) hBr
      have hj6 : j = 0 ∨ j = 1 ∨ j = 2 ∨ j = 3 ∨ j = 4 ∨ j = 5 ∨ j = 6 := by omega
      rcases hj6 with rfl | rfl | rfl | rfl | rfl | rfl | rfl
      · have hq : (if s[q].toNat = 123 then (1 : Int) else sgnF 1 s[q]) = v := HQ.out
        have hk : ((⟨#[123, 125, 91, 93, 44, 58]⟩ : ByteArray)[0]'(by decide)).toNat = 123 := rfl
        by_cases hc : s[q].toNat = 123
        · rw [if_pos hc] at hq
          subst hq
          have h := HH.out
          rw [if_pos (by decide)] at h
          obtain ⟨rfl, rfl, rfl, rfl, rfl, rfl⟩ := resV_ok h
          clear h HQ HH
          have hsz : w.heap.size < wr.heap.size := by have := hBr.size; simp at this; omega
          clear hB0 hsz
          go_wp2_with fail
          go_region
          have hBd := bel_drew hBr
          generalize wr.drew = wd at hBd ⊢
          clear hBr
          have hsz : w.heap.size < wd.heap.size := by have := hBd.size; simp at this; omega
          have hB0 : Below w.heap.size w wd := below_more (bel_alloc (Below.refl _ _) _) hBd
          obtain ⟨hcc, hff⟩ := bcell hBd
          go_wp2_with fail
          exact bodyPost_ret (v := .tuple #[.agg #[.int .u8 1, .int .i64 q, .int .i64 ((q : Int) + 1), .int .i64 0, .string ⟨#[]⟩], .int .i64 0]) (by simp [results, Tryz.results29, go_sem, hcc]) rfl ⟨rfl, bel_set5 hB0 (Nat.le_refl _) _ _ _ _ _⟩
        · rw [if_neg hc] at hq
          have HST := Lib.hid hq
          have hcb : ((s[q].toNat : Int) == 123) = false := beq_eq_false_iff_ne.2 (by omega)
          clear HQ hq hc hB0
          go_wp2_with fail
          go_region
          all_goals go_wp2_with fail
          all_goals exact ⟨⟨1, by omega, rfl, HST, bel_drew hBr⟩, by simp [intOf]⟩
      · have hq : (if s[q].toNat = 125 then (2 : Int) else sgnF 2 s[q]) = v := HQ.out
        have hk : ((⟨#[123, 125, 91, 93, 44, 58]⟩ : ByteArray)[1]'(by decide)).toNat = 125 := rfl
        by_cases hc : s[q].toNat = 125
        · rw [if_pos hc] at hq
          subst hq
          have h := HH.out
          rw [if_pos (by decide)] at h
          obtain ⟨rfl, rfl, rfl, rfl, rfl, rfl⟩ := resV_ok h
          clear h HQ HH
          have hsz : w.heap.size < wr.heap.size := by have := hBr.size; simp at this; omega
          clear hB0 hsz
          go_wp2_with fail
          go_region
          have hBd := bel_drew hBr
          generalize wr.drew = wd at hBd ⊢
          clear hBr
          have hsz : w.heap.size < wd.heap.size := by have := hBd.size; simp at this; omega
          have hB0 : Below w.heap.size w wd := below_more (bel_alloc (Below.refl _ _) _) hBd
          obtain ⟨hcc, hff⟩ := bcell hBd
          go_wp2_with fail
          exact bodyPost_ret (v := .tuple #[.agg #[.int .u8 2, .int .i64 q, .int .i64 ((q : Int) + 1), .int .i64 0, .string ⟨#[]⟩], .int .i64 0]) (by simp [results, Tryz.results29, go_sem, hcc]) rfl ⟨rfl, bel_set5 hB0 (Nat.le_refl _) _ _ _ _ _⟩
        · rw [if_neg hc] at hq
          have HST := Lib.hid hq
          have hcb : ((s[q].toNat : Int) == 125) = false := beq_eq_false_iff_ne.2 (by omega)
          clear HQ hq hc hB0
          go_wp2_with fail
          go_region
          all_goals go_wp2_with fail
          all_goals exact ⟨⟨2, by omega, rfl, HST, bel_drew hBr⟩, by simp [intOf]⟩
      · have hq : (if s[q].toNat = 91 then (3 : Int) else sgnF 3 s[q]) = v := HQ.out
        have hk : ((⟨#[123, 125, 91, 93, 44, 58]⟩ : ByteArray)[2]'(by decide)).toNat = 91 := rfl
        by_cases hc : s[q].toNat = 91
        · rw [if_pos hc] at hq
          subst hq
          have h := HH.out
          rw [if_pos (by decide)] at h
          obtain ⟨rfl, rfl, rfl, rfl, rfl, rfl⟩ := resV_ok h
          clear h HQ HH
          have hsz : w.heap.size < wr.heap.size := by have := hBr.size; simp at this; omega
          clear hB0 hsz
          go_wp2_with fail
          go_region
          have hBd := bel_drew hBr
          generalize wr.drew = wd at hBd ⊢
          clear hBr
          have hsz : w.heap.size < wd.heap.size := by have := hBd.size; simp at this; omega
          have hB0 : Below w.heap.size w wd := below_more (bel_alloc (Below.refl _ _) _) hBd
          obtain ⟨hcc, hff⟩ := bcell hBd
          go_wp2_with fail
          exact bodyPost_ret (v := .tuple #[.agg #[.int .u8 3, .int .i64 q, .int .i64 ((q : Int) + 1), .int .i64 0, .string ⟨#[]⟩], .int .i64 0]) (by simp [results, Tryz.results29, go_sem, hcc]) rfl ⟨rfl, bel_set5 hB0 (Nat.le_refl _) _ _ _ _ _⟩
        · rw [if_neg hc] at hq
          have HST := Lib.hid hq
          have hcb : ((s[q].toNat : Int) == 91) = false := beq_eq_false_iff_ne.2 (by omega)
          clear HQ hq hc hB0
          go_wp2_with fail
          go_region
          all_goals go_wp2_with fail
          all_goals exact ⟨⟨3, by omega, rfl, HST, bel_drew hBr⟩, by simp [intOf]⟩
      · have hq : (if s[q].toNat = 93 then (4 : Int) else sgnF 4 s[q]) = v := HQ.out
        have hk : ((⟨#[123, 125, 91, 93, 44, 58]⟩ : ByteArray)[3]'(by decide)).toNat = 93 := rfl
        by_cases hc : s[q].toNat = 93
        · rw [if_pos hc] at hq
          subst hq
          have h := HH.out
          rw [if_pos (by decide)] at h
          obtain ⟨rfl, rfl, rfl, rfl, rfl, rfl⟩ := resV_ok h
          clear h HQ HH
          have hsz : w.heap.size < wr.heap.size := by have := hBr.size; simp at this; omega
          clear hB0 hsz
          go_wp2_with fail
          go_region
          have hBd := bel_drew hBr
          generalize wr.drew = wd at hBd ⊢
          clear hBr
          have hsz : w.heap.size < wd.heap.size := by have := hBd.size; simp at this; omega
          have hB0 : Below w.heap.size w wd := below_more (bel_alloc (Below.refl _ _) _) hBd
          obtain ⟨hcc, hff⟩ := bcell hBd
          go_wp2_with fail
          exact bodyPost_ret (v := .tuple #[.agg #[.int .u8 4, .int .i64 q, .int .i64 ((q : Int) + 1), .int .i64 0, .string ⟨#[]⟩], .int .i64 0]) (by simp [results, Tryz.results29, go_sem, hcc]) rfl ⟨rfl, bel_set5 hB0 (Nat.le_refl _) _ _ _ _ _⟩
        · rw [if_neg hc] at hq
          have HST := Lib.hid hq
          have hcb : ((s[q].toNat : Int) == 93) = false := beq_eq_false_iff_ne.2 (by omega)
          clear HQ hq hc hB0
          go_wp2_with fail
          go_region
          all_goals go_wp2_with fail
          all_goals exact ⟨⟨4, by omega, rfl, HST, bel_drew hBr⟩, by simp [intOf]⟩
      · have hq : (if s[q].toNat = 44 then (5 : Int) else sgnF 5 s[q]) = v := HQ.out
        have hk : ((⟨#[123, 125, 91, 93, 44, 58]⟩ : ByteArray)[4]'(by decide)).toNat = 44 := rfl
        by_cases hc : s[q].toNat = 44
        · rw [if_pos hc] at hq
          subst hq
          have h := HH.out
          rw [if_pos (by decide)] at h
          obtain ⟨rfl, rfl, rfl, rfl, rfl, rfl⟩ := resV_ok h
          clear h HQ HH
          have hsz : w.heap.size < wr.heap.size := by have := hBr.size; simp at this; omega
          clear hB0 hsz
          go_wp2_with fail
          go_region
          have hBd := bel_drew hBr
          generalize wr.drew = wd at hBd ⊢
          clear hBr
          have hsz : w.heap.size < wd.heap.size := by have := hBd.size; simp at this; omega
          have hB0 : Below w.heap.size w wd := below_more (bel_alloc (Below.refl _ _) _) hBd
          obtain ⟨hcc, hff⟩ := bcell hBd
          go_wp2_with fail
          exact bodyPost_ret (v := .tuple #[.agg #[.int .u8 5, .int .i64 q, .int .i64 ((q : Int) + 1), .int .i64 0, .string ⟨#[]⟩], .int .i64 0]) (by simp [results, Tryz.results29, go_sem, hcc]) rfl ⟨rfl, bel_set5 hB0 (Nat.le_refl _) _ _ _ _ _⟩
        · rw [if_neg hc] at hq
          have HST := Lib.hid hq
          have hcb : ((s[q].toNat : Int) == 44) = false := beq_eq_false_iff_ne.2 (by omega)
          clear HQ hq hc hB0
          go_wp2_with fail
          go_region
          all_goals go_wp2_with fail
          all_goals exact ⟨⟨5, by omega, rfl, HST, bel_drew hBr⟩, by simp [intOf]⟩
      · have hq : (if s[q].toNat = 58 then (6 : Int) else sgnF 6 s[q]) = v := HQ.out
        have hk : ((⟨#[123, 125, 91, 93, 44, 58]⟩ : ByteArray)[5]'(by decide)).toNat = 58 := rfl
        by_cases hc : s[q].toNat = 58
        · rw [if_pos hc] at hq
          subst hq
          have h := HH.out
          rw [if_pos (by decide)] at h
          obtain ⟨rfl, rfl, rfl, rfl, rfl, rfl⟩ := resV_ok h
          clear h HQ HH
          have hsz : w.heap.size < wr.heap.size := by have := hBr.size; simp at this; omega
          clear hB0 hsz
          go_wp2_with fail
          go_region
          have hBd := bel_drew hBr
          generalize wr.drew = wd at hBd ⊢
          clear hBr
          have hsz : w.heap.size < wd.heap.size := by have := hBd.size; simp at this; omega
          have hB0 : Below w.heap.size w wd := below_more (bel_alloc (Below.refl _ _) _) hBd
          obtain ⟨hcc, hff⟩ := bcell hBd
          go_wp2_with fail
          exact bodyPost_ret (v := .tuple #[.agg #[.int .u8 6, .int .i64 q, .int .i64 ((q : Int) + 1), .int .i64 0, .string ⟨#[]⟩], .int .i64 0]) (by simp [results, Tryz.results29, go_sem, hcc]) rfl ⟨rfl, bel_set5 hB0 (Nat.le_refl _) _ _ _ _ _⟩
        · rw [if_neg hc] at hq
          have HST := Lib.hid hq
          have hcb : ((s[q].toNat : Int) == 58) = false := beq_eq_false_iff_ne.2 (by omega)
          clear HQ hq hc hB0
          go_wp2_with fail
          go_region
          all_goals go_wp2_with fail
          all_goals exact ⟨⟨6, by omega, rfl, HST, bel_drew hBr⟩, by simp [intOf]⟩
      · have hq : (0 : Int) = v := HQ.out
        subst hq
        have h := HH.out
        rw [if_neg (by decide)] at h
        have hsz : w.heap.size < wr.heap.size := by have := hBr.size; simp at this; omega
        clear HQ HH
        by_cases h34 : s[q].toNat = 34
        · have hcb : ((s[q].toNat : Int) == 34) = true := by rw [h34]; rfl
          rw [if_pos h34] at h
          obtain ⟨l, c, e, hR⟩ : ∃ l c e, strQ (s.data.toList.drop (q + 1)) [] = (l, c, e) := ⟨_, _, _, rfl⟩
          rw [textP_eq, hR] at h
          simp only [] at h
          by_cases h1 : e ≠ 0
          · rw [if_pos h1] at h
            obtain ⟨rfl, rfl, rfl, rfl, rfl, rfl⟩ := resV_bad h1 h
            have HC := Lib.hid (fun W => refText_any s q W hs hq1 h34 [] 0 er (show strR (q + 1) (strQ (s.data.toList.drop (q + 1)) []) = _ by rw [hR, strR, if_pos h1]))
            have heb : (er != 0) = true := by rw [bne_iff_ne]; exact h1
            clear h h1 hR h34
            go_wp2_with fail
            refine (HC.out _).mono ?_
            rintro e w3 ⟨rfl, hb3⟩
            have hb4 := below_more hBr hb3
            have hsz3 : w.heap.size < w3.heap.size := by have := hb3.size; omega
            obtain ⟨hcc, hff⟩ := bcell hb4
            go_wp2_with fail
            exact bodyPost_ret (v := .tuple #[.agg #[.int .u8 0, .int .i64 0, .int .i64 0, .int .i64 0, .string ⟨#[]⟩], .int .i64 er]) (by simp [results, Tryz.results29, go_sem, hcc]) rfl ⟨rfl, bel_set5 (below_more hB0 hb3) (Nat.le_refl _) _ _ _ _ _⟩
          · rw [if_neg h1] at h
            have h0 : e = 0 := by simpa using h1
            subst h0
            obtain ⟨rfl, rfl, hz, rfl, ht, rfl⟩ := resV_ok h
            have HC := Lib.hid (fun W => refText_any s q W hs hq1 h34 l z 0 (show strR (q + 1) (strQ (s.data.toList.drop (q + 1)) []) = _ by rw [hR, strR, if_neg h1, hz]; simp only [Prod.mk.injEq, true_and, and_true]; omega))
            rw [← ht] at HC
            clear h h1 hz hR h34 ht
            go_wp2_with fail
            refine (HC.out _).mono ?_
            rintro e w3 ⟨rfl, hb3⟩
            have hb4 := below_more hBr hb3
            have hsz3 : w.heap.size < w3.heap.size := by have := hb3.size; omega
            obtain ⟨hcc, hff⟩ := bcell hb4
            go_wp2_with fail
            exact bodyPost_ret (v := .tuple #[.agg #[.int .u8 10, .int .i64 q, .int .i64 z, .int .i64 0, .string t], .int .i64 0]) (by simp [results, Tryz.results29, go_sem, hcc]) rfl ⟨rfl, bel_set5 (below_more hB0 hb3) (Nat.le_refl _) _ _ _ _ _⟩
        · have hcb : ((s[q].toNat : Int) == 34) = false := beq_eq_false_iff_ne.2 (by omega)
          rw [if_neg h34] at h
          by_cases hnum : numFirst s[q] = true
          · rw [if_pos hnum] at h
            have hcs : (∃ d1 : decide ((48 : Int) ≤ (s[q].toNat : Int)) = true, decide ((s[q].toNat : Int) ≤ 57) = true) ∨ s[q].toNat = 45 ∨ s[q].toNat = 43 ∨ s[q].toNat = 46 := by
              rcases numFirst_cases hnum with h9 | h9
              · exact Or.inl ⟨by simp; omega, by simp; omega⟩
              · exact Or.inr h9
            obtain ⟨r1, r2, r3, hR⟩ : ∃ r1 r2 r3, readP s.data.toList q = (r1, r2, r3) := ⟨_, _, _, rfl⟩
            have HC := Lib.hid (fun W => refRead_in s q W hs hqs r1 r2 r3 hR)
            rw [readP_in (by rw [size_len]; exact hqs)] at hR
            have hrun : Nm.run s.data.toList q = (s.data.toList.drop q).takeWhile Nm.isN := rfl
            rw [hrun] at hR
            unfold numP at h
            have hfin : (r3 ≠ 0 ∧ k = 0 ∧ x = 0 ∧ z = 0 ∧ n = 0 ∧ t = ⟨#[]⟩ ∧ er = r3) ∨ (r3 = 0 ∧ k = 9 ∧ x = (q : Int) ∧ z = r2 ∧ n = r1 ∧ t = ⟨#[]⟩ ∧ er = 0) := by
              by_cases h1 : Nm.form ((s.data.toList.drop q).takeWhile Nm.isN) = false
              · rw [if_pos h1] at h hR
                simp only [Prod.mk.injEq] at hR
                obtain ⟨-, -, rfl⟩ := hR
                exact Or.inl ⟨by decide, resV_bad (by decide) h⟩
              · rw [if_neg h1] at h hR
                by_cases h2 : -9223372036854775808 ≤ Nm.val ((s.data.toList.drop q).takeWhile Nm.isN) ∧ Nm.val ((s.data.toList.drop q).takeWhile Nm.isN) ≤ 9223372036854775807
                · rw [if_pos h2] at h hR
                  simp only [Prod.mk.injEq] at hR
                  obtain ⟨a1, a2, a3, a4, a5, a6⟩ := resV_ok h
                  obtain ⟨b1, b2, b3⟩ := hR
                  exact Or.inr ⟨b3.symm, a1, a2, by rw [a3, ← b2], by rw [a4, ← b1], a5, a6⟩
                · rw [if_neg h2] at h hR
                  simp only [Prod.mk.injEq] at hR
                  obtain ⟨-, -, rfl⟩ := hR
                  exact Or.inl ⟨by decide, resV_bad (by decide) h⟩
            clear h hR hrun hnum h34
            rcases hfin with ⟨h3, rfl, rfl, rfl, rfl, rfl, rfl⟩ | ⟨rfl, rfl, rfl, rfl, rfl, rfl, rfl⟩
            · have heb : (er != 0) = true := by rw [bne_iff_ne]; exact h3
              clear h3
              rcases hcs with ⟨d1, d2⟩ | h9 | h9 | h9
              all_goals
                go_wp2_with fail
                refine (HC.out _).mono ?_
                rintro e w3 ⟨rfl, hb3⟩
                have hb4 := below_more hBr hb3
                have hsz3 : w.heap.size < w3.heap.size := by have := hb3.size; omega
                obtain ⟨hcc, hff⟩ := bcell hb4
                go_wp2_with fail
                exact bodyPost_ret (v := .tuple #[.agg #[.int .u8 0, .int .i64 0, .int .i64 0, .int .i64 0, .string ⟨#[]⟩], .int .i64 er]) (by simp [results, Tryz.results29, go_sem, hcc]) rfl ⟨rfl, bel_set5 (below_more hB0 hb3) (Nat.le_refl _) _ _ _ _ _⟩
            · rcases hcs with ⟨d1, d2⟩ | h9 | h9 | h9
              all_goals
                go_wp2_with fail
                refine (HC.out _).mono ?_
                rintro e w3 ⟨rfl, hb3⟩
                have hb4 := below_more hBr hb3
                have hsz3 : w.heap.size < w3.heap.size := by have := hb3.size; omega
                obtain ⟨hcc, hff⟩ := bcell hb4
                go_wp2_with fail
                exact bodyPost_ret (v := .tuple #[.agg #[.int .u8 9, .int .i64 q, .int .i64 z, .int .i64 n, .string ⟨#[]⟩], .int .i64 0]) (by simp [results, Tryz.results29, go_sem, hcc]) rfl ⟨rfl, bel_set5 (below_more hB0 hb3) (Nat.le_refl _) _ _ _ _ _⟩
          · have hnum' : numFirst s[q] = false := by simpa using hnum
            rw [if_neg hnum] at h
            obtain ⟨n1, n2, n3, n4⟩ := numFirst_no hnum'
            have e2 : ((s[q].toNat : Int) == 45) = false := beq_eq_false_iff_ne.2 (by omega)
            have e3 : ((s[q].toNat : Int) == 43) = false := beq_eq_false_iff_ne.2 (by omega)
            have e4 : ((s[q].toNat : Int) == 46) = false := beq_eq_false_iff_ne.2 (by omega)
            have hds : decide ((48 : Int) ≤ (s[q].toNat : Int)) = false ∨ (∃ d1 : decide ((48 : Int) ≤ (s[q].toNat : Int)) = true, decide ((s[q].toNat : Int) ≤ 57) = false) := by
              by_cases h9 : 48 ≤ s[q].toNat
              · exact Or.inr ⟨by simp; omega, by simp; omega⟩
              · exact Or.inl (by simp; omega)
            obtain ⟨z0, hz0⟩ : ∃ z0, q + ((s.data.toList.drop q).takeWhile isLow).length = z0 := ⟨_, rfl⟩
            have hz1 : z0 ≤ s.size := by have := tw_len (p := isLow) (s.data.toList.drop q); rw [List.length_drop, size_len] at this; omega
            have hz2 : q ≤ z0 := by omega
            have HC := Lib.hid (fun W => refWord_any s q W hs hqs z0 hz0)
            have hex : (s.extract q z0).toList = (s.data.toList.drop q).takeWhile isLow := by
              rw [ext_list, ← hz0, show q + ((s.data.toList.drop q).takeWhile isLow).length - q = ((s.data.toList.drop q).takeWhile isLow).length by omega, tw_take]
            unfold wordP at h
            have z3 : (q : Int) ≤ (z0 : Int) := by omega
            have z4 : (z0 : Int) ≤ (s.size : Int) := by omega
            clear hnum hnum' n1 n2 n3 n4 h34
            by_cases w1 : (s.data.toList.drop q).takeWhile isLow = [116, 114, 117, 101]
            · rw [if_pos w1] at h
              obtain ⟨rfl, rfl, hz, rfl, rfl, rfl⟩ := resV_ok h
              have hz' : z = (z0 : Int) := by rw [hz, ← hz0, w1]; simp
              subst hz'
              have e5 : ((s.extract q z0).toList == [116, 114, 117, 101]) = true := by rw [hex, w1]; rfl
              clear h hz hz0 hex w1
              rcases hds with d1 | ⟨d1, d2⟩
              all_goals
                go_wp2_with fail
                refine (HC.out _).mono ?_
                rintro e w3 ⟨rfl, rfl⟩
                obtain ⟨hcc, hff⟩ := bcell hBr
                go_wp2_with fail
                exact bodyPost_ret (v := .tuple #[.agg #[.int .u8 7, .int .i64 q, .int .i64 z0, .int .i64 0, .string ⟨#[]⟩], .int .i64 0]) (by simp [results, Tryz.results29, go_sem, hcc]) rfl ⟨rfl, bel_set5 hB0 (Nat.le_refl _) _ _ _ _ _⟩
            · rw [if_neg w1] at h
              have e5 : ((s.extract q z0).toList == [116, 114, 117, 101]) = false := by rw [hex]; exact beq_eq_false_iff_ne.2 w1
              by_cases w2 : (s.data.toList.drop q).takeWhile isLow = [102, 97, 108, 115, 101]
              · rw [if_pos w2] at h
                obtain ⟨rfl, rfl, hz, rfl, rfl, rfl⟩ := resV_ok h
                have hz' : z = (z0 : Int) := by rw [hz, ← hz0, w2]; simp
                subst hz'
                have e6 : ((s.extract q z0).toList == [102, 97, 108, 115, 101]) = true := by rw [hex, w2]; rfl
                clear h hz hz0 hex w1 w2
                rcases hds with d1 | ⟨d1, d2⟩
                all_goals
                  go_wp2_with fail
                  refine (HC.out _).mono ?_
                  rintro e w3 ⟨rfl, rfl⟩
                  obtain ⟨hcc, hff⟩ := bcell hBr
                  go_wp2_with fail
                  exact bodyPost_ret (v := .tuple #[.agg #[.int .u8 8, .int .i64 q, .int .i64 z0, .int .i64 0, .string ⟨#[]⟩], .int .i64 0]) (by simp [results, Tryz.results29, go_sem, hcc]) rfl ⟨rfl, bel_set5 hB0 (Nat.le_refl _) _ _ _ _ _⟩
              · rw [if_neg w2] at h
                obtain ⟨rfl, rfl, rfl, rfl, rfl, rfl⟩ := resV_bad (by decide) h
                have e6 : ((s.extract q z0).toList == [102, 97, 108, 115, 101]) = false := by rw [hex]; exact beq_eq_false_iff_ne.2 w2
                clear h hz0 hex w1 w2
                rcases hds with d1 | ⟨d1, d2⟩
                all_goals
                  go_wp2_with fail
                  refine (HC.out _).mono ?_
                  rintro e w3 ⟨rfl, rfl⟩
                  obtain ⟨hcc, hff⟩ := bcell hBr
                  go_wp2_with fail
                  exact bodyPost_ret (v := .tuple #[.agg #[.int .u8 0, .int .i64 0, .int .i64 0, .int .i64 0, .string ⟨#[]⟩], .int .i64 3]) (by simp [results, Tryz.results29, go_sem, hcc]) rfl ⟨rfl, bel_set5 hB0 (Nat.le_refl _) _ _ _ _ _⟩
end Go.Proofs.YtfdecbfcddkoiaaGreatDoor
