/-
  The walk of the law NumNames: the examples, one by one.
-/
import Derived.Test.YtjekdhahbkofbaaDoorNumDigits
namespace Go.Proofs.YtjekdhahbkofbaaDoor
open Go.RowKit

theorem cell_new (w : World) (cs : Array Value) (t : TypeId) (i : Nat) (v : Value) (h : cs[i]? = some v) : (w.alloc (.cells cs t)).cell? ⟨w.heap.size, i, none⟩ = some v := by
  have hh : (w.alloc (.cells cs t)).heap[w.heap.size]? = some (.cells cs t) := by
    show (w.heap.push (.cells cs t))[w.heap.size]? = _
    simp
  unfold World.cell?
  simp only [hh]
  simpa using h
theorem is_ok (l : List UInt8) (n : Int) (w0 w : World) (hok : Ok w0 w) (h : isOK l n = true) :
    Calls Tryd.prog 28 #[.string ⟨l.toArray⟩, .int .i64 n] w fun e w' => e = .returned (.bool true) ∧ Ok w0 w' :=
  (is_lit l n w hok.env h).mono fun _ _ ⟨he, hb⟩ => ⟨he, hok.more hb⟩
theorem no_ok (l : List UInt8) (n : Int) (w0 w : World) (hok : Ok w0 w) (h : noOK l n = true) :
    Calls Tryd.prog 29 #[.string ⟨l.toArray⟩, .int .i64 n] w fun e w' => e = .returned (.bool true) ∧ Ok w0 w' ∧ Below w.heap.size w w' :=
  (no_lit l n w hok.env h).mono fun _ _ ⟨he, hb⟩ => ⟨he, hok.more hb, hb⟩
theorem ReadL_ok (l : List UInt8) (at_ r1 r2 r3 : Int) (hl : l.length ≤ 100) (h : decide (readP l at_ = (r1, r2, r3)) = true) (w0 w : World) (hok : Ok w0 w) :
    Calls Tryd.prog 24 #[.string ⟨l.toArray⟩, .int .i64 at_] w fun e w' => e = .returned (.tuple #[.int .i64 r1, .int .i64 r2, .int .i64 r3]) ∧ Ok w0 w' := by
  have h2 := Read_ok ⟨l.toArray⟩ at_ w0 w (by rw [bytes_size]; omega) hok
  rw [bytes_of, of_decide_eq_true h] at h2
  exact h2

set_option maxRecDepth 100000 in
set_option maxHeartbeats 4000000 in
theorem numNames_walk (w : World) (henv : NumEnv w) :
    Calls Tryd.prog 10 #[] w fun e w' => e = .returned (.bool true) ∧ Below w.heap.size w w' := by
  have hok0 : Ok w w := ⟨Below.refl _ _, henv⟩
  clear henv
  go_enter Tryd.func10, Tryd.ntmps10
  go_wp2_with fail
  refine (awake6_ok w _ hok0).mono ?_
  rintro e w1 ⟨rfl, hok1⟩
  clear hok0
  go_wp2_with fail
  refine (is_ok [48] 0 w _ hok1 (by decide +kernel)).mono ?_
  rintro e w2 ⟨rfl, hok2⟩
  clear hok1
  go_wp2_with fail
  refine (is_ok [57, 50, 50, 51, 51, 55, 50, 48, 51, 54, 56, 53, 52, 55, 55, 53, 56, 48, 55] 9223372036854775807 w _ hok2 (by decide +kernel)).mono ?_
  rintro e w3 ⟨rfl, hok3⟩
  clear hok2
  go_wp2_with fail
  refine (is_ok [45, 49] (-1) w _ hok3 (by decide +kernel)).mono ?_
  rintro e w4 ⟨rfl, hok4⟩
  clear hok3
  go_wp2_with fail
  refine (is_ok [49, 48, 48, 48, 48, 48, 48, 48, 48, 48, 48, 48, 48, 48, 48, 48, 48, 48, 48] 1000000000000000000 w _ hok4 (by decide +kernel)).mono ?_
  rintro e w5 ⟨rfl, hok5⟩
  clear hok4
  go_wp2_with fail
  go_loopw [46] (fun i wr => ∃ k : Nat, k ≤ 7 ∧ i = .int .i64 k ∧ Ok w wr ∧ Below (w5.heap.size + 1) (w5.alloc (.cells #[.string ⟨#[45, 57, 50, 50, 51, 51, 55, 50, 48, 51, 54, 56, 53, 52, 55, 55, 53, 56, 48, 57]⟩, .string ⟨#[49, 48, 48, 48, 48, 48, 48, 48, 48, 48, 48, 48, 48, 48, 48, 48, 48, 48, 48, 48]⟩, .string ⟨#[49, 56, 52, 52, 54, 55, 52, 52, 48, 55, 51, 55, 48, 57, 53, 53, 49, 54, 49, 54]⟩, .string ⟨#[49, 56, 52, 52, 54, 55, 52, 52, 48, 55, 51, 55, 48, 57, 53, 53, 49, 54, 50, 48]⟩, .string ⟨#[45, 49, 56, 52, 52, 54, 55, 52, 52, 48, 55, 51, 55, 48, 57, 53, 53, 49, 54, 49, 55]⟩, .string ⟨#[57, 57, 57, 57, 57, 57, 57, 57, 57, 57, 57, 57, 57, 57, 57, 57, 57, 57, 57, 57]⟩, .string ⟨#[49, 50, 51, 52, 53, 54, 55, 56, 57, 48, 49, 50, 51, 52, 53, 54, 55, 56, 57, 48, 49, 50, 51, 52, 53, 54, 55, 56, 57, 48]⟩] 9)) wr) (fun i _ => 7 - (intOf i).toNat)
  case atStart => exact ⟨0, by omega, rfl, hok5.alloc _, Below.refl _ _⟩
  case round =>
    obtain ⟨k, hk, rfl, hokr, hB⟩ := hrel
    have hsz := hB.size
    simp only [World.size_alloc] at hsz
    by_cases h0 : k = 0
    · subst h0
      have hc : wr.cell? ⟨w5.heap.size, 0, none⟩ = some (.string ⟨([45, 57, 50, 50, 51, 51, 55, 50, 48, 51, 54, 56, 53, 52, 55, 55, 53, 56, 48, 57] : List UInt8).toArray⟩) := by
        rw [hB.cell (p := ⟨w5.heap.size, 0, none⟩) (Nat.lt_succ_self _)]
        exact cell_new _ _ _ _ _ rfl
      go_wp2_with fail
      refine (no_ok [45, 57, 50, 50, 51, 51, 55, 50, 48, 51, 54, 56, 53, 52, 55, 55, 53, 56, 48, 57] 9 w _ hokr (by decide +kernel)).mono ?_
      rintro e wx ⟨rfl, hokx, hbx⟩
      go_wp2_with fail
      have hB2 := hB.trans (hbx.mono hsz)
      refine ⟨?_, by simp [intOf]⟩
      first | exact ⟨1, by omega, rfl, hokx, hB2⟩ | ((repeat apply Exists.intro); exact ⟨⟨1, by omega, rfl, hokx, hB2⟩, rfl⟩)
    by_cases h1 : k = 1
    · subst h1
      have hc : wr.cell? ⟨w5.heap.size, 1, none⟩ = some (.string ⟨([49, 48, 48, 48, 48, 48, 48, 48, 48, 48, 48, 48, 48, 48, 48, 48, 48, 48, 48, 48] : List UInt8).toArray⟩) := by
        rw [hB.cell (p := ⟨w5.heap.size, 1, none⟩) (Nat.lt_succ_self _)]
        exact cell_new _ _ _ _ _ rfl
      go_wp2_with fail
      refine (no_ok [49, 48, 48, 48, 48, 48, 48, 48, 48, 48, 48, 48, 48, 48, 48, 48, 48, 48, 48, 48] 9 w _ hokr (by decide +kernel)).mono ?_
      rintro e wx ⟨rfl, hokx, hbx⟩
      go_wp2_with fail
      have hB2 := hB.trans (hbx.mono hsz)
      refine ⟨?_, by simp [intOf]⟩
      first | exact ⟨2, by omega, rfl, hokx, hB2⟩ | ((repeat apply Exists.intro); exact ⟨⟨2, by omega, rfl, hokx, hB2⟩, rfl⟩)
    by_cases h2 : k = 2
    · subst h2
      have hc : wr.cell? ⟨w5.heap.size, 2, none⟩ = some (.string ⟨([49, 56, 52, 52, 54, 55, 52, 52, 48, 55, 51, 55, 48, 57, 53, 53, 49, 54, 49, 54] : List UInt8).toArray⟩) := by
        rw [hB.cell (p := ⟨w5.heap.size, 2, none⟩) (Nat.lt_succ_self _)]
        exact cell_new _ _ _ _ _ rfl
      go_wp2_with fail
      refine (no_ok [49, 56, 52, 52, 54, 55, 52, 52, 48, 55, 51, 55, 48, 57, 53, 53, 49, 54, 49, 54] 9 w _ hokr (by decide +kernel)).mono ?_
      rintro e wx ⟨rfl, hokx, hbx⟩
      go_wp2_with fail
      have hB2 := hB.trans (hbx.mono hsz)
      refine ⟨?_, by simp [intOf]⟩
      first | exact ⟨3, by omega, rfl, hokx, hB2⟩ | ((repeat apply Exists.intro); exact ⟨⟨3, by omega, rfl, hokx, hB2⟩, rfl⟩)
    by_cases h3 : k = 3
    · subst h3
      have hc : wr.cell? ⟨w5.heap.size, 3, none⟩ = some (.string ⟨([49, 56, 52, 52, 54, 55, 52, 52, 48, 55, 51, 55, 48, 57, 53, 53, 49, 54, 50, 48] : List UInt8).toArray⟩) := by
        rw [hB.cell (p := ⟨w5.heap.size, 3, none⟩) (Nat.lt_succ_self _)]
        exact cell_new _ _ _ _ _ rfl
      go_wp2_with fail
      refine (no_ok [49, 56, 52, 52, 54, 55, 52, 52, 48, 55, 51, 55, 48, 57, 53, 53, 49, 54, 50, 48] 9 w _ hokr (by decide +kernel)).mono ?_
      rintro e wx ⟨rfl, hokx, hbx⟩
      go_wp2_with fail
      have hB2 := hB.trans (hbx.mono hsz)
      refine ⟨?_, by simp [intOf]⟩
      first | exact ⟨4, by omega, rfl, hokx, hB2⟩ | ((repeat apply Exists.intro); exact ⟨⟨4, by omega, rfl, hokx, hB2⟩, rfl⟩)
    by_cases h4 : k = 4
    · subst h4
      have hc : wr.cell? ⟨w5.heap.size, 4, none⟩ = some (.string ⟨([45, 49, 56, 52, 52, 54, 55, 52, 52, 48, 55, 51, 55, 48, 57, 53, 53, 49, 54, 49, 55] : List UInt8).toArray⟩) := by
        rw [hB.cell (p := ⟨w5.heap.size, 4, none⟩) (Nat.lt_succ_self _)]
        exact cell_new _ _ _ _ _ rfl
      go_wp2_with fail
      refine (no_ok [45, 49, 56, 52, 52, 54, 55, 52, 52, 48, 55, 51, 55, 48, 57, 53, 53, 49, 54, 49, 55] 9 w _ hokr (by decide +kernel)).mono ?_
      rintro e wx ⟨rfl, hokx, hbx⟩
      go_wp2_with fail
      have hB2 := hB.trans (hbx.mono hsz)
      refine ⟨?_, by simp [intOf]⟩
      first | exact ⟨5, by omega, rfl, hokx, hB2⟩ | ((repeat apply Exists.intro); exact ⟨⟨5, by omega, rfl, hokx, hB2⟩, rfl⟩)
    by_cases h5 : k = 5
    · subst h5
      have hc : wr.cell? ⟨w5.heap.size, 5, none⟩ = some (.string ⟨([57, 57, 57, 57, 57, 57, 57, 57, 57, 57, 57, 57, 57, 57, 57, 57, 57, 57, 57, 57] : List UInt8).toArray⟩) := by
        rw [hB.cell (p := ⟨w5.heap.size, 5, none⟩) (Nat.lt_succ_self _)]
        exact cell_new _ _ _ _ _ rfl
      go_wp2_with fail
      refine (no_ok [57, 57, 57, 57, 57, 57, 57, 57, 57, 57, 57, 57, 57, 57, 57, 57, 57, 57, 57, 57] 9 w _ hokr (by decide +kernel)).mono ?_
      rintro e wx ⟨rfl, hokx, hbx⟩
      go_wp2_with fail
      have hB2 := hB.trans (hbx.mono hsz)
      refine ⟨?_, by simp [intOf]⟩
      first | exact ⟨6, by omega, rfl, hokx, hB2⟩ | ((repeat apply Exists.intro); exact ⟨⟨6, by omega, rfl, hokx, hB2⟩, rfl⟩)
    by_cases h6 : k = 6
    · subst h6
      have hc : wr.cell? ⟨w5.heap.size, 6, none⟩ = some (.string ⟨([49, 50, 51, 52, 53, 54, 55, 56, 57, 48, 49, 50, 51, 52, 53, 54, 55, 56, 57, 48, 49, 50, 51, 52, 53, 54, 55, 56, 57, 48] : List UInt8).toArray⟩) := by
        rw [hB.cell (p := ⟨w5.heap.size, 6, none⟩) (Nat.lt_succ_self _)]
        exact cell_new _ _ _ _ _ rfl
      go_wp2_with fail
      refine (no_ok [49, 50, 51, 52, 53, 54, 55, 56, 57, 48, 49, 50, 51, 52, 53, 54, 55, 56, 57, 48, 49, 50, 51, 52, 53, 54, 55, 56, 57, 48] 9 w _ hokr (by decide +kernel)).mono ?_
      rintro e wx ⟨rfl, hokx, hbx⟩
      go_wp2_with fail
      have hB2 := hB.trans (hbx.mono hsz)
      refine ⟨?_, by simp [intOf]⟩
      first | exact ⟨7, by omega, rfl, hokx, hB2⟩ | ((repeat apply Exists.intro); exact ⟨⟨7, by omega, rfl, hokx, hB2⟩, rfl⟩)
    have hk7 : k = 7 := by omega
    subst hk7
    clear h0 h1 h2 h3 h4 h5 h6
    obtain ⟨w10, rfl⟩ : ∃ x : World, x = wr := ⟨_, rfl⟩
    have hok10 := hokr
    clear hokr hB hsz
    go_wp2_with fail
    go_loopw [56] (fun i wr => ∃ k : Nat, k ≤ 14 ∧ i = .int .i64 k ∧ Ok w wr ∧ Below (w10.heap.size + 1) (w10.alloc (.cells #[.string ⟨#[]⟩, .string ⟨#[45, 45, 49]⟩, .string ⟨#[49, 45]⟩, .string ⟨#[49, 43, 49]⟩, .string ⟨#[45, 48, 49]⟩, .string ⟨#[48, 49]⟩, .string ⟨#[49, 46]⟩, .string ⟨#[46, 53]⟩, .string ⟨#[49, 69]⟩, .string ⟨#[101]⟩, .string ⟨#[45, 97]⟩, .string ⟨#[48, 120, 49]⟩, .string ⟨#[48, 46, 48]⟩, .string ⟨#[49, 50, 51, 52, 53, 54, 55, 56, 57, 48, 49, 50, 51, 52, 53, 54, 55, 56, 57, 48, 49, 50, 51, 52, 53, 54, 55, 56, 57, 48, 46, 53]⟩] 9)) wr) (fun i _ => 14 - (intOf i).toNat)
    case atStart => exact ⟨0, by omega, rfl, hok10.alloc _, Below.refl _ _⟩
    case round =>
      obtain ⟨k, hk, rfl, hokr, hB⟩ := hrel
      have hsz := hB.size
      simp only [World.size_alloc] at hsz
      by_cases h0 : k = 0
      · subst h0
        have hc : wr.cell? ⟨w10.heap.size, 0, none⟩ = some (.string ⟨([] : List UInt8).toArray⟩) := by
          rw [hB.cell (p := ⟨w10.heap.size, 0, none⟩) (Nat.lt_succ_self _)]
          exact cell_new _ _ _ _ _ rfl
        go_wp2_with fail
        refine (no_ok [] 3 w _ hokr (by decide +kernel)).mono ?_
        rintro e wx ⟨rfl, hokx, hbx⟩
        go_wp2_with fail
        have hB2 := hB.trans (hbx.mono hsz)
        refine ⟨?_, by simp [intOf]⟩
        first | exact ⟨1, by omega, rfl, hokx, hB2⟩ | ((repeat apply Exists.intro); exact ⟨⟨1, by omega, rfl, hokx, hB2⟩, rfl⟩)
      by_cases h1 : k = 1
      · subst h1
        have hc : wr.cell? ⟨w10.heap.size, 1, none⟩ = some (.string ⟨([45, 45, 49] : List UInt8).toArray⟩) := by
          rw [hB.cell (p := ⟨w10.heap.size, 1, none⟩) (Nat.lt_succ_self _)]
          exact cell_new _ _ _ _ _ rfl
        go_wp2_with fail
        refine (no_ok [45, 45, 49] 3 w _ hokr (by decide +kernel)).mono ?_
        rintro e wx ⟨rfl, hokx, hbx⟩
        go_wp2_with fail
        have hB2 := hB.trans (hbx.mono hsz)
        refine ⟨?_, by simp [intOf]⟩
        first | exact ⟨2, by omega, rfl, hokx, hB2⟩ | ((repeat apply Exists.intro); exact ⟨⟨2, by omega, rfl, hokx, hB2⟩, rfl⟩)
      by_cases h2 : k = 2
      · subst h2
        have hc : wr.cell? ⟨w10.heap.size, 2, none⟩ = some (.string ⟨([49, 45] : List UInt8).toArray⟩) := by
          rw [hB.cell (p := ⟨w10.heap.size, 2, none⟩) (Nat.lt_succ_self _)]
          exact cell_new _ _ _ _ _ rfl
        go_wp2_with fail
        refine (no_ok [49, 45] 3 w _ hokr (by decide +kernel)).mono ?_
        rintro e wx ⟨rfl, hokx, hbx⟩
        go_wp2_with fail
        have hB2 := hB.trans (hbx.mono hsz)
        refine ⟨?_, by simp [intOf]⟩
        first | exact ⟨3, by omega, rfl, hokx, hB2⟩ | ((repeat apply Exists.intro); exact ⟨⟨3, by omega, rfl, hokx, hB2⟩, rfl⟩)
      by_cases h3 : k = 3
      · subst h3
        have hc : wr.cell? ⟨w10.heap.size, 3, none⟩ = some (.string ⟨([49, 43, 49] : List UInt8).toArray⟩) := by
          rw [hB.cell (p := ⟨w10.heap.size, 3, none⟩) (Nat.lt_succ_self _)]
          exact cell_new _ _ _ _ _ rfl
        go_wp2_with fail
        refine (no_ok [49, 43, 49] 3 w _ hokr (by decide +kernel)).mono ?_
        rintro e wx ⟨rfl, hokx, hbx⟩
        go_wp2_with fail
        have hB2 := hB.trans (hbx.mono hsz)
        refine ⟨?_, by simp [intOf]⟩
        first | exact ⟨4, by omega, rfl, hokx, hB2⟩ | ((repeat apply Exists.intro); exact ⟨⟨4, by omega, rfl, hokx, hB2⟩, rfl⟩)
      by_cases h4 : k = 4
      · subst h4
        have hc : wr.cell? ⟨w10.heap.size, 4, none⟩ = some (.string ⟨([45, 48, 49] : List UInt8).toArray⟩) := by
          rw [hB.cell (p := ⟨w10.heap.size, 4, none⟩) (Nat.lt_succ_self _)]
          exact cell_new _ _ _ _ _ rfl
        go_wp2_with fail
        refine (no_ok [45, 48, 49] 3 w _ hokr (by decide +kernel)).mono ?_
        rintro e wx ⟨rfl, hokx, hbx⟩
        go_wp2_with fail
        have hB2 := hB.trans (hbx.mono hsz)
        refine ⟨?_, by simp [intOf]⟩
        first | exact ⟨5, by omega, rfl, hokx, hB2⟩ | ((repeat apply Exists.intro); exact ⟨⟨5, by omega, rfl, hokx, hB2⟩, rfl⟩)
      by_cases h5 : k = 5
      · subst h5
        have hc : wr.cell? ⟨w10.heap.size, 5, none⟩ = some (.string ⟨([48, 49] : List UInt8).toArray⟩) := by
          rw [hB.cell (p := ⟨w10.heap.size, 5, none⟩) (Nat.lt_succ_self _)]
          exact cell_new _ _ _ _ _ rfl
        go_wp2_with fail
        refine (no_ok [48, 49] 3 w _ hokr (by decide +kernel)).mono ?_
        rintro e wx ⟨rfl, hokx, hbx⟩
        go_wp2_with fail
        have hB2 := hB.trans (hbx.mono hsz)
        refine ⟨?_, by simp [intOf]⟩
        first | exact ⟨6, by omega, rfl, hokx, hB2⟩ | ((repeat apply Exists.intro); exact ⟨⟨6, by omega, rfl, hokx, hB2⟩, rfl⟩)
      by_cases h6 : k = 6
      · subst h6
        have hc : wr.cell? ⟨w10.heap.size, 6, none⟩ = some (.string ⟨([49, 46] : List UInt8).toArray⟩) := by
          rw [hB.cell (p := ⟨w10.heap.size, 6, none⟩) (Nat.lt_succ_self _)]
          exact cell_new _ _ _ _ _ rfl
        go_wp2_with fail
        refine (no_ok [49, 46] 3 w _ hokr (by decide +kernel)).mono ?_
        rintro e wx ⟨rfl, hokx, hbx⟩
        go_wp2_with fail
        have hB2 := hB.trans (hbx.mono hsz)
        refine ⟨?_, by simp [intOf]⟩
        first | exact ⟨7, by omega, rfl, hokx, hB2⟩ | ((repeat apply Exists.intro); exact ⟨⟨7, by omega, rfl, hokx, hB2⟩, rfl⟩)
      by_cases h7 : k = 7
      · subst h7
        have hc : wr.cell? ⟨w10.heap.size, 7, none⟩ = some (.string ⟨([46, 53] : List UInt8).toArray⟩) := by
          rw [hB.cell (p := ⟨w10.heap.size, 7, none⟩) (Nat.lt_succ_self _)]
          exact cell_new _ _ _ _ _ rfl
        go_wp2_with fail
        refine (no_ok [46, 53] 3 w _ hokr (by decide +kernel)).mono ?_
        rintro e wx ⟨rfl, hokx, hbx⟩
        go_wp2_with fail
        have hB2 := hB.trans (hbx.mono hsz)
        refine ⟨?_, by simp [intOf]⟩
        first | exact ⟨8, by omega, rfl, hokx, hB2⟩ | ((repeat apply Exists.intro); exact ⟨⟨8, by omega, rfl, hokx, hB2⟩, rfl⟩)
      by_cases h8 : k = 8
      · subst h8
        have hc : wr.cell? ⟨w10.heap.size, 8, none⟩ = some (.string ⟨([49, 69] : List UInt8).toArray⟩) := by
          rw [hB.cell (p := ⟨w10.heap.size, 8, none⟩) (Nat.lt_succ_self _)]
          exact cell_new _ _ _ _ _ rfl
        go_wp2_with fail
        refine (no_ok [49, 69] 3 w _ hokr (by decide +kernel)).mono ?_
        rintro e wx ⟨rfl, hokx, hbx⟩
        go_wp2_with fail
        have hB2 := hB.trans (hbx.mono hsz)
        refine ⟨?_, by simp [intOf]⟩
        first | exact ⟨9, by omega, rfl, hokx, hB2⟩ | ((repeat apply Exists.intro); exact ⟨⟨9, by omega, rfl, hokx, hB2⟩, rfl⟩)
      by_cases h9 : k = 9
      · subst h9
        have hc : wr.cell? ⟨w10.heap.size, 9, none⟩ = some (.string ⟨([101] : List UInt8).toArray⟩) := by
          rw [hB.cell (p := ⟨w10.heap.size, 9, none⟩) (Nat.lt_succ_self _)]
          exact cell_new _ _ _ _ _ rfl
        go_wp2_with fail
        refine (no_ok [101] 3 w _ hokr (by decide +kernel)).mono ?_
        rintro e wx ⟨rfl, hokx, hbx⟩
        go_wp2_with fail
        have hB2 := hB.trans (hbx.mono hsz)
        refine ⟨?_, by simp [intOf]⟩
        first | exact ⟨10, by omega, rfl, hokx, hB2⟩ | ((repeat apply Exists.intro); exact ⟨⟨10, by omega, rfl, hokx, hB2⟩, rfl⟩)
      by_cases h10 : k = 10
      · subst h10
        have hc : wr.cell? ⟨w10.heap.size, 10, none⟩ = some (.string ⟨([45, 97] : List UInt8).toArray⟩) := by
          rw [hB.cell (p := ⟨w10.heap.size, 10, none⟩) (Nat.lt_succ_self _)]
          exact cell_new _ _ _ _ _ rfl
        go_wp2_with fail
        refine (no_ok [45, 97] 3 w _ hokr (by decide +kernel)).mono ?_
        rintro e wx ⟨rfl, hokx, hbx⟩
        go_wp2_with fail
        have hB2 := hB.trans (hbx.mono hsz)
        refine ⟨?_, by simp [intOf]⟩
        first | exact ⟨11, by omega, rfl, hokx, hB2⟩ | ((repeat apply Exists.intro); exact ⟨⟨11, by omega, rfl, hokx, hB2⟩, rfl⟩)
      by_cases h11 : k = 11
      · subst h11
        have hc : wr.cell? ⟨w10.heap.size, 11, none⟩ = some (.string ⟨([48, 120, 49] : List UInt8).toArray⟩) := by
          rw [hB.cell (p := ⟨w10.heap.size, 11, none⟩) (Nat.lt_succ_self _)]
          exact cell_new _ _ _ _ _ rfl
        go_wp2_with fail
        refine ⟨?_, by simp [intOf]⟩
        first | exact ⟨12, by omega, rfl, hokr, hB⟩ | ((repeat apply Exists.intro); exact ⟨⟨12, by omega, rfl, hokr, hB⟩, rfl⟩)
      by_cases h12 : k = 12
      · subst h12
        have hc : wr.cell? ⟨w10.heap.size, 12, none⟩ = some (.string ⟨([48, 46, 48] : List UInt8).toArray⟩) := by
          rw [hB.cell (p := ⟨w10.heap.size, 12, none⟩) (Nat.lt_succ_self _)]
          exact cell_new _ _ _ _ _ rfl
        go_wp2_with fail
        refine (no_ok [48, 46, 48] 3 w _ hokr (by decide +kernel)).mono ?_
        rintro e wx ⟨rfl, hokx, hbx⟩
        go_wp2_with fail
        have hB2 := hB.trans (hbx.mono hsz)
        refine ⟨?_, by simp [intOf]⟩
        first | exact ⟨13, by omega, rfl, hokx, hB2⟩ | ((repeat apply Exists.intro); exact ⟨⟨13, by omega, rfl, hokx, hB2⟩, rfl⟩)
      by_cases h13 : k = 13
      · subst h13
        have hc : wr.cell? ⟨w10.heap.size, 13, none⟩ = some (.string ⟨([49, 50, 51, 52, 53, 54, 55, 56, 57, 48, 49, 50, 51, 52, 53, 54, 55, 56, 57, 48, 49, 50, 51, 52, 53, 54, 55, 56, 57, 48, 46, 53] : List UInt8).toArray⟩) := by
          rw [hB.cell (p := ⟨w10.heap.size, 13, none⟩) (Nat.lt_succ_self _)]
          exact cell_new _ _ _ _ _ rfl
        go_wp2_with fail
        refine (no_ok [49, 50, 51, 52, 53, 54, 55, 56, 57, 48, 49, 50, 51, 52, 53, 54, 55, 56, 57, 48, 49, 50, 51, 52, 53, 54, 55, 56, 57, 48, 46, 53] 3 w _ hokr (by decide +kernel)).mono ?_
        rintro e wx ⟨rfl, hokx, hbx⟩
        go_wp2_with fail
        have hB2 := hB.trans (hbx.mono hsz)
        refine ⟨?_, by simp [intOf]⟩
        first | exact ⟨14, by omega, rfl, hokx, hB2⟩ | ((repeat apply Exists.intro); exact ⟨⟨14, by omega, rfl, hokx, hB2⟩, rfl⟩)
      have hk7 : k = 14 := by omega
      subst hk7
      clear h0 h1 h2 h3 h4 h5 h6 h7 h8 h9 h10 h11 h12 h13
      have hok20 := hokr
      clear hokr hB hsz
      go_wp2_with fail
      refine (ReadL_ok [91, 49, 50, 44, 51, 93] 1 12 3 0 (by decide) (by decide +kernel) w _ hok20).mono ?_
      rintro e w21 ⟨rfl, hok21⟩
      clear hok20
      go_wp2_with fail
      refine (ReadL_ok [48, 120, 49] 0 0 1 0 (by decide) (by decide +kernel) w _ hok21).mono ?_
      rintro e w22 ⟨rfl, hok22⟩
      clear hok21
      go_wp2_with fail
      refine (ReadL_ok [49, 50] 2 0 0 3 (by decide) (by decide +kernel) w _ hok22).mono ?_
      rintro e w23 ⟨rfl, hok23⟩
      clear hok22
      go_wp2_with fail
      refine (ReadL_ok [49, 50] 3 0 0 1 (by decide) (by decide +kernel) w _ hok23).mono ?_
      rintro e w24 ⟨rfl, hok24⟩
      clear hok23
      go_wp2_with fail
      refine (ReadL_ok [49, 50] (-1) 0 0 1 (by decide) (by decide +kernel) w _ hok24).mono ?_
      rintro e w25 ⟨rfl, hok25⟩
      clear hok24
      go_wp2_with fail
      go_ret
      exact ⟨rfl, hok25.bel⟩
end Go.Proofs.YtjekdhahbkofbaaDoor
