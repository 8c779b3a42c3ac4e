/-
  The walk of the law NumBack.
-/
import Derived.Test.YtjekdhahbkofbaaDoorNumDigits
import Derived.Deep.RegionHeld3
namespace Go.Proofs.YtjekdhahbkofbaaDoor
open Go.RowKit

theorem takeWhile_len {p : UInt8 → Bool} : ∀ l : List UInt8, (l.takeWhile p).length ≤ l.length
  | [] => by simp
  | c :: r => by
    rw [List.takeWhile_cons]
    have := takeWhile_len (p := p) r
    split
    · simp only [List.length_cons]; omega
    · simp
theorem takeWhile_eq_take {p : UInt8 → Bool} : ∀ l : List UInt8, l.takeWhile p = l.take (l.takeWhile p).length
  | [] => by simp
  | c :: r => by
    rw [List.takeWhile_cons]
    split
    · rw [List.length_cons, List.take_succ_cons, ← takeWhile_eq_take r]
    · simp

/-- What is refused has no number and no place. -/
theorem readP_bad {l : List UInt8} {at_ : Int} (h : (readP l at_).2.2 ≠ 0) : (readP l at_).1 = 0 ∧ (readP l at_).2.1 = 0 := by
  unfold readP at h ⊢
  split
  · exact ⟨rfl, rfl⟩
  · rename_i h1
    rw [if_neg h1] at h
    split
    · exact ⟨rfl, rfl⟩
    · rename_i h2
      rw [if_neg h2] at h
      split
      · rename_i h3
        rw [if_pos h3] at h
        exact absurd rfl h
      · exact ⟨rfl, rfl⟩
/-- What is read is the number whose text stands there. -/
theorem readP_good {l : List UInt8} {at_ : Int} (h : (readP l at_).2.2 = 0) : ∃ a k : Nat, at_ = a ∧ (readP l at_).2.1 = k ∧ a < k ∧ k ≤ l.length ∧ Lib.itoa (readP l at_).1 = (l.drop a).take (k - a) ∧ -9223372036854775808 ≤ (readP l at_).1 ∧ (readP l at_).1 ≤ 9223372036854775807 := by
  by_cases h1 : at_ < 0 ∨ (l.length : Int) < at_
  · rw [readP, if_pos h1] at h; cases h
  · obtain ⟨a, rfl⟩ := Int.eq_ofNat_of_zero_le (show 0 ≤ at_ by omega)
    have e := readP_in (l := l) (a := a) (by omega)
    by_cases h2 : Nm.form (Nm.run l a) = false
    · rw [e, if_pos h2] at h; cases h
    · by_cases h3 : -9223372036854775808 ≤ Nm.val (Nm.run l a) ∧ Nm.val (Nm.run l a) ≤ 9223372036854775807
      · rw [if_neg h2, if_pos h3] at e
        have hne : Nm.run l a ≠ [] := fun he => by rw [he] at h2; exact h2 (by decide)
        have hpos := List.length_pos_iff.2 hne
        have hle : (Nm.run l a).length ≤ l.length - a := by
          have := takeWhile_len (p := Nm.isN) (l.drop a)
          rw [List.length_drop] at this
          exact this
        have hrun : Nm.run l a = (l.drop a).take (Nm.run l a).length := takeWhile_eq_take (l.drop a)
        refine ⟨a, a + (Nm.run l a).length, rfl, ?_, by omega, by omega, ?_, ?_, ?_⟩
        · rw [e]; simp
        · rw [e, Nat.add_sub_cancel_left, ← hrun]
          exact Nm.itoa_val (by simpa using h2)
        · rw [e]; exact h3.1
        · rw [e]; exact h3.2
      · rw [e, if_neg h2, if_neg h3] at h; cases h
/-- A number's text with something ahead and something behind that does not go on. -/
theorem readP_back (la lb : List UInt8) (n : Int) (n0 : -9223372036854775808 ≤ n) (n1 : n ≤ 9223372036854775807) (hb : ∀ c r, lb = c :: r → Nm.isN c = false) :
    readP (la ++ Lib.itoa n ++ lb) (la.length : Int) = (n, (la.length : Int) + (Lib.itoa n).length, 0) := by
  obtain ⟨f1, f2, f3, _⟩ := Nm.itoa_form n
  have hr : Nm.run (la ++ Lib.itoa n ++ lb) la.length = Lib.itoa n := by
    rw [Nm.run, List.append_assoc, List.drop_left]
    rw [List.all_eq_true] at f3
    rw [List.takeWhile_append_of_pos f3]
    have : lb.takeWhile Nm.isN = [] := by
      match lb, hb with
      | [], _ => rfl
      | c :: r, hb => rw [List.takeWhile_cons, hb c r rfl]; rfl
    rw [this, List.append_nil]
  have e := readP_in (l := la ++ Lib.itoa n ++ lb) (a := la.length) (by simp)
  rw [hr, if_neg (by simp [f1]), f2, if_pos ⟨n0, n1⟩] at e
  exact e

theorem cat3 (a b : ByteArray) (l : List UInt8) : (a ++ ⟨l.toArray⟩ ++ b).data.toList = a.data.toList ++ l ++ b.data.toList := by
  simp
theorem ReadC_ok (a b : ByteArray) (l : List UInt8) (at_ : Int) (ha : a.size ≤ 3000) (hb : b.size ≤ 3000) (hl : l.length ≤ 21) (r1 r2 r3 : Int) (hr : Hid (readP (a.data.toList ++ l ++ b.data.toList) at_ = (r1, r2, r3))) (w0 w : World) (h : Ok w0 w) :
    Calls Tryd.prog 24 #[.string (a ++ ⟨l.toArray⟩ ++ b), .int .i64 at_] w fun e w' => e = .returned (.tuple #[.int .i64 r1, .int .i64 r2, .int .i64 r3]) ∧ Ok w0 w' := by
  have h2 := Read_ok (a ++ ⟨l.toArray⟩ ++ b) at_ w0 w ?_ h
  · rw [cat3, hr.out] at h2
    exact h2
  · have e1 : (a ++ (⟨l.toArray⟩ : ByteArray) ++ b).size = a.size + l.length + b.size := by rw [ByteArray.size_append, ByteArray.size_append, bytes_size l]
    omega

set_option maxRecDepth 100000 in
set_option maxHeartbeats 1000000 in
theorem numBack_walk (n : Int) (a b : ByteArray) (at_ : Int) (w : World) (w0 : (Lit.int .i64 n).wf = true) (w1 : a.size ≤ maxLen) (w2 : b.size ≤ maxLen) (w3 : (Lit.int .i64 at_).wf = true) (henv : NumEnv w) :
    Calls Tryd.prog 11 #[.int .i64 n, .string a, .string b, .int .i64 at_] w fun e w' => e = .returned (.bool true) ∧ Below w.heap.size w w' := by
  obtain ⟨n0, n1⟩ := bounds_i64 w0
  obtain ⟨a0, a1⟩ := bounds_i64 w3
  unfold maxLen at w1 w2
  clear w0 w3
  have hok : Ok w w := ⟨Below.refl _ _, henv⟩
  by_cases hl : 3000 < a.size ∨ 3000 < b.size
  · by_cases hl1 : 3000 < a.size
    all_goals
      have hl2 : 3000 < a.size ∨ 3000 < b.size := hl
      clear hl
      try (replace hl2 : 3000 < b.size := by omega)
      go_enter Tryd.func11, Tryd.ntmps11
      go_wp2_with fail
      refine (awake6_ok _ _ hok).mono ?_
      rintro e w4 ⟨rfl, hok4⟩
      go_wp2_with fail
      go_ret
      exact ⟨rfl, hok4.bel⟩
  · have ha : a.size ≤ 3000 := by omega
    have hb : b.size ≤ 3000 := by omega
    clear w1 w2 hl
    have hlen := itoa_len n0 n1
    have hd1 : decide (3000 < (a.size : Int)) = false := by simp; omega
    have hd2 : decide (3000 < (b.size : Int)) = false := by simp; omega
    obtain ⟨s1, s2, s3, hs⟩ : ∃ s1 s2 s3, readP (a.data.toList ++ Lib.itoa n ++ b.data.toList) at_ = (s1, s2, s3) := ⟨_, _, _, rfl⟩
    have HS := Lib.hid hs
    clear hs
    go_enter Tryd.func11, Tryd.ntmps11
    go_wp2_with fail
    refine (awake6_ok _ _ hok).mono ?_
    rintro e w4 ⟨rfl, hok4⟩
    clear hok henv
    go_wp2_with fail
    refine (Show_ok n n0 n1 w _ hok4).mono ?_
    rintro e w5 ⟨rfl, hok5, -⟩
    clear hok4
    go_wp2_with fail
    by_cases hbe : b.data.toList = []
    · have hbt : b.toList = [] := by rw [toList_data, hbe]
      have HR : Hid (readP (a.data.toList ++ Lib.itoa n ++ b.data.toList) (a.size : Int) = (n, (a.size : Int) + (Lib.itoa n).length, 0)) := by
        have := readP_back a.data.toList b.data.toList n n0 n1 (fun c r h => by rw [hbe] at h; cases h)
        rwa [size_len] at this
      clear hbe
      refine (ReadC_ok a b _ _ ha hb hlen _ _ _ HR w _ hok5).mono ?_
      rintro e w6 ⟨rfl, hok6⟩
      clear hok5 HR
      go_wp2_with fail
      refine (ReadC_ok a b _ at_ ha hb hlen s1 s2 s3 HS w _ hok6).mono ?_
      rintro e w7 ⟨rfl, hok7⟩
      clear hok6
      by_cases h3 : s3 = 0
      · subst h3
        have hg := readP_good (l := a.data.toList ++ Lib.itoa n ++ b.data.toList) (at_ := at_) (by rw [HS.out])
        rw [HS.out] at hg
        obtain ⟨p, q, rfl, g1, g2, g3, g4, g5, g6⟩ := hg
        simp only at g1 g4 g5 g6
        subst g1
        have hq : q ≤ a.size + (Lib.itoa n).length + b.size := by
          have := g3
          rw [List.length_append, List.length_append, size_len, size_len] at this
          exact this
        have hsl : (a ++ ⟨(Lib.itoa n).toArray⟩ ++ b).extract p q = (⟨(Lib.itoa s1).toArray⟩ : ByteArray) := by
          apply ByteArray.ext
          rw [← Array.toList_inj, Lib.extract_data, cat3, g4]
        have hsz : (a ++ (⟨(Lib.itoa n).toArray⟩ : ByteArray) ++ b).size = a.size + (Lib.itoa n).length + b.size := by rw [ByteArray.size_append, ByteArray.size_append, bytes_size (Lib.itoa n)]
        have HSL := Lib.hid hsl
        have hg1 : ¬ 9223372036854775807 < a.size + (Lib.itoa n).length := by omega
        have hg2 : ¬ 9223372036854775807 < a.size + (Lib.itoa n).length + b.size := by omega
        have hslc : ∀ wx : World, (Instr.slice 9 (.string (a ++ ⟨(Lib.itoa n).toArray⟩ ++ b)) (some (.int .i64 (p : Int))) (some (.int .i64 (q : Int))) none).run Tryd.prog wx = .ok (.string ⟨(Lib.itoa s1).toArray⟩) wx := fun wx => by
          have := run_slice_string (P := Tryd.prog) wx 9 (a ++ ⟨(Lib.itoa n).toArray⟩ ++ b) .i64 .i64 (p : Int) (q : Int) Tryd.underlying9 (by omega) (by omega) (by rw [hsz]; omega)
          rw [this, Int.toNat_natCast, Int.toNat_natCast, HSL.out]
        have hi0 : (0 : Int) ≤ (p : Int) := by omega
        have hi1 : (p : Int) ≤ (q : Int) := by omega
        have hi2 : (q : Int) ≤ ((a.size + (Lib.itoa n).length + b.size : Nat) : Int) := by omega
        have hi3 : p ≤ q := by omega
        have hD1 : decide (q ≤ a.size + (Lib.itoa n).length + b.size) = true := by simpa using hq
        have hD2 : decide ((q : Int) ≤ (a.size : Int) + ((Lib.itoa n).length : Int) + (b.size : Int)) = true := by simp; omega
        have hD3 : decide (p < q) = true := by simpa using g2
        have hD4 : decide ((0 : Int) ≤ (p : Int)) = true := by simp
        clear hsl HS g3 g4
        go_wp2_with fail
        go_region_held3 (fun _ => True) (exact trivial) (first | (go_at_call 26; refine (Show_ok s1 g5 g6 w _ ?_).mono ?_; (repeat first | assumption | apply Ok.drew | apply Ok.alloc); rintro e w8 ⟨rfl, hok8, -⟩))
        all_goals
          go_wp2_with fail
          go_simp
          go_ret
          refine ⟨ret_bool ?_, hok8.bel⟩
          simp
      · have hbad := readP_bad (l := a.data.toList ++ Lib.itoa n ++ b.data.toList) (at_ := at_) (by rw [HS.out]; exact h3)
        rw [HS.out] at hbad
        simp only at hbad
        obtain ⟨rfl, rfl⟩ := hbad
        have h3b : (s3 != 0) = true := by simp [h3]
        have h3c : (s3 == 0) = false := beq_eq_false_iff_ne.2 h3
        clear h3 HS
        go_wp2_with fail
        go_ret
        exact ⟨rfl, hok7.bel⟩
    · have hbp : 0 < b.size := by
        rcases Nat.eq_zero_or_pos b.size with h | h
        · exact absurd (empty_of b (by omega)) hbe
        · exact h
      have hbt : ¬ b.toList = [] := by rw [toList_data]; exact hbe
      have hbi : b.toList.isEmpty = false := by cases h : b.toList <;> simp_all
      by_cases hN : Nm.isN b[0] = true
      · obtain ⟨r1, r2, r3, hr⟩ : ∃ r1 r2 r3, readP (a.data.toList ++ Lib.itoa n ++ b.data.toList) (a.size : Int) = (r1, r2, r3) := ⟨_, _, _, rfl⟩
        have HN := Lib.hid hN
        clear hN hbe
        refine (ReadC_ok a b _ _ ha hb hlen _ _ _ hr w _ hok5).mono ?_
        rintro e w6 ⟨rfl, hok6⟩
        clear hok5 hr
        go_wp2_with fail
        refine (more_any b[0] _ true HN).mono ?_
        rintro e w' ⟨rfl, rfl⟩
        go_wp2_with fail
        refine (ReadC_ok a b _ at_ ha hb hlen s1 s2 s3 HS w _ hok6).mono ?_
        rintro e w7 ⟨rfl, hok7⟩
        clear hok6
        by_cases h3 : s3 = 0
        · subst h3
          have hg := readP_good (l := a.data.toList ++ Lib.itoa n ++ b.data.toList) (at_ := at_) (by rw [HS.out])
          rw [HS.out] at hg
          obtain ⟨p, q, rfl, g1, g2, g3, g4, g5, g6⟩ := hg
          simp only at g1 g4 g5 g6
          subst g1
          have hq : q ≤ a.size + (Lib.itoa n).length + b.size := by
            have := g3
            rw [List.length_append, List.length_append, size_len, size_len] at this
            exact this
          have hsl : (a ++ ⟨(Lib.itoa n).toArray⟩ ++ b).extract p q = (⟨(Lib.itoa s1).toArray⟩ : ByteArray) := by
            apply ByteArray.ext
            rw [← Array.toList_inj, Lib.extract_data, cat3, g4]
          have hsz : (a ++ (⟨(Lib.itoa n).toArray⟩ : ByteArray) ++ b).size = a.size + (Lib.itoa n).length + b.size := by rw [ByteArray.size_append, ByteArray.size_append, bytes_size (Lib.itoa n)]
          have HSL := Lib.hid hsl
          have hg1 : ¬ 9223372036854775807 < a.size + (Lib.itoa n).length := by omega
          have hg2 : ¬ 9223372036854775807 < a.size + (Lib.itoa n).length + b.size := by omega
          have hslc : ∀ wx : World, (Instr.slice 9 (.string (a ++ ⟨(Lib.itoa n).toArray⟩ ++ b)) (some (.int .i64 (p : Int))) (some (.int .i64 (q : Int))) none).run Tryd.prog wx = .ok (.string ⟨(Lib.itoa s1).toArray⟩) wx := fun wx => by
            have := run_slice_string (P := Tryd.prog) wx 9 (a ++ ⟨(Lib.itoa n).toArray⟩ ++ b) .i64 .i64 (p : Int) (q : Int) Tryd.underlying9 (by omega) (by omega) (by rw [hsz]; omega)
            rw [this, Int.toNat_natCast, Int.toNat_natCast, HSL.out]
          have hi0 : (0 : Int) ≤ (p : Int) := by omega
          have hi1 : (p : Int) ≤ (q : Int) := by omega
          have hi2 : (q : Int) ≤ ((a.size + (Lib.itoa n).length + b.size : Nat) : Int) := by omega
          have hi3 : p ≤ q := by omega
          have hD1 : decide (q ≤ a.size + (Lib.itoa n).length + b.size) = true := by simpa using hq
          have hD2 : decide ((q : Int) ≤ (a.size : Int) + ((Lib.itoa n).length : Int) + (b.size : Int)) = true := by simp; omega
          have hD3 : decide (p < q) = true := by simpa using g2
          have hD4 : decide ((0 : Int) ≤ (p : Int)) = true := by simp
          clear hsl HS g3 g4
          go_wp2_with fail
          go_region_held3 (fun _ => True) (exact trivial) (first | (go_at_call 26; refine (Show_ok s1 g5 g6 w _ ?_).mono ?_; (repeat first | assumption | apply Ok.drew | apply Ok.alloc); rintro e w8 ⟨rfl, hok8, -⟩))
          all_goals
            go_wp2_with fail
            go_simp
            go_ret
            refine ⟨ret_bool ?_, hok8.bel⟩
            simp
        · have hbad := readP_bad (l := a.data.toList ++ Lib.itoa n ++ b.data.toList) (at_ := at_) (by rw [HS.out]; exact h3)
          rw [HS.out] at hbad
          simp only at hbad
          obtain ⟨rfl, rfl⟩ := hbad
          have h3b : (s3 != 0) = true := by simp [h3]
          have h3c : (s3 == 0) = false := beq_eq_false_iff_ne.2 h3
          clear h3 HS
          go_wp2_with fail
          go_ret
          exact ⟨rfl, hok7.bel⟩
      · have HN : Hid (Nm.isN b[0] = false) := by simpa [Hid] using hN
        have HR : Hid (readP (a.data.toList ++ Lib.itoa n ++ b.data.toList) (a.size : Int) = (n, (a.size : Int) + (Lib.itoa n).length, 0)) := by
          have := readP_back a.data.toList b.data.toList n n0 n1 (fun c r h => by
            have h2 := head_at b hbp
            rw [h] at h2
            injection h2 with h3 h4
            rw [h3]; exact HN.out)
          rwa [size_len] at this
        clear hN hbe
        refine (ReadC_ok a b _ _ ha hb hlen _ _ _ HR w _ hok5).mono ?_
        rintro e w6 ⟨rfl, hok6⟩
        clear hok5 HR
        go_wp2_with fail
        refine (more_any b[0] _ false HN).mono ?_
        rintro e w' ⟨rfl, rfl⟩
        go_wp2_with fail
        refine (ReadC_ok a b _ at_ ha hb hlen s1 s2 s3 HS w _ hok6).mono ?_
        rintro e w7 ⟨rfl, hok7⟩
        clear hok6
        by_cases h3 : s3 = 0
        · subst h3
          have hg := readP_good (l := a.data.toList ++ Lib.itoa n ++ b.data.toList) (at_ := at_) (by rw [HS.out])
          rw [HS.out] at hg
          obtain ⟨p, q, rfl, g1, g2, g3, g4, g5, g6⟩ := hg
          simp only at g1 g4 g5 g6
          subst g1
          have hq : q ≤ a.size + (Lib.itoa n).length + b.size := by
            have := g3
            rw [List.length_append, List.length_append, size_len, size_len] at this
            exact this
          have hsl : (a ++ ⟨(Lib.itoa n).toArray⟩ ++ b).extract p q = (⟨(Lib.itoa s1).toArray⟩ : ByteArray) := by
            apply ByteArray.ext
            rw [← Array.toList_inj, Lib.extract_data, cat3, g4]
          have hsz : (a ++ (⟨(Lib.itoa n).toArray⟩ : ByteArray) ++ b).size = a.size + (Lib.itoa n).length + b.size := by rw [ByteArray.size_append, ByteArray.size_append, bytes_size (Lib.itoa n)]
          have HSL := Lib.hid hsl
          have hg1 : ¬ 9223372036854775807 < a.size + (Lib.itoa n).length := by omega
          have hg2 : ¬ 9223372036854775807 < a.size + (Lib.itoa n).length + b.size := by omega
          have hslc : ∀ wx : World, (Instr.slice 9 (.string (a ++ ⟨(Lib.itoa n).toArray⟩ ++ b)) (some (.int .i64 (p : Int))) (some (.int .i64 (q : Int))) none).run Tryd.prog wx = .ok (.string ⟨(Lib.itoa s1).toArray⟩) wx := fun wx => by
            have := run_slice_string (P := Tryd.prog) wx 9 (a ++ ⟨(Lib.itoa n).toArray⟩ ++ b) .i64 .i64 (p : Int) (q : Int) Tryd.underlying9 (by omega) (by omega) (by rw [hsz]; omega)
            rw [this, Int.toNat_natCast, Int.toNat_natCast, HSL.out]
          have hi0 : (0 : Int) ≤ (p : Int) := by omega
          have hi1 : (p : Int) ≤ (q : Int) := by omega
          have hi2 : (q : Int) ≤ ((a.size + (Lib.itoa n).length + b.size : Nat) : Int) := by omega
          have hi3 : p ≤ q := by omega
          have hD1 : decide (q ≤ a.size + (Lib.itoa n).length + b.size) = true := by simpa using hq
          have hD2 : decide ((q : Int) ≤ (a.size : Int) + ((Lib.itoa n).length : Int) + (b.size : Int)) = true := by simp; omega
          have hD3 : decide (p < q) = true := by simpa using g2
          have hD4 : decide ((0 : Int) ≤ (p : Int)) = true := by simp
          clear hsl HS g3 g4
          go_wp2_with fail
          go_region_held3 (fun _ => True) (exact trivial) (first | (go_at_call 26; refine (Show_ok s1 g5 g6 w _ ?_).mono ?_; (repeat first | assumption | apply Ok.drew | apply Ok.alloc); rintro e w8 ⟨rfl, hok8, -⟩))
          all_goals
            go_wp2_with fail
            go_simp
            go_ret
            refine ⟨ret_bool ?_, hok8.bel⟩
            simp
        · have hbad := readP_bad (l := a.data.toList ++ Lib.itoa n ++ b.data.toList) (at_ := at_) (by rw [HS.out]; exact h3)
          rw [HS.out] at hbad
          simp only at hbad
          obtain ⟨rfl, rfl⟩ := hbad
          have h3b : (s3 != 0) = true := by simp [h3]
          have h3c : (s3 == 0) = false := beq_eq_false_iff_ne.2 h3
          clear h3 HS
          go_wp2_with fail
          go_ret
          exact ⟨rfl, hok7.bel⟩
end Go.Proofs.YtjekdhahbkofbaaDoor
