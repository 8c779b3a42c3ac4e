/-
  How much values have (the laws' own guard): legatelaw08.size and Long.
-/
import Derived.Test.YtjekdhahbkofbaaDoorVal
namespace Go.Proofs.YtjekdhahbkofbaaDoor
open Go.RowKit

mutual
/-- How much a value has. -/
def wt : JV → Nat
  | .mk _ _ t names items => 4 + t.size + (names.map fun s => 2 + s.size).sum + wtL items
def wtL : List JV → Nat
  | [] => 0
  | x :: r => wt x + wtL r
end
def wtN (names : List ByteArray) : Nat := (names.map fun s => 2 + s.size).sum
theorem wt_eq (x : JV) : wt x = 4 + x.t.size + wtN x.names + wtL x.items := by cases x; rfl
theorem wtL_append (a b : List JV) : wtL (a ++ b) = wtL a + wtL b := by
  induction a with
  | nil => simp [wtL]
  | cons x r ih => simp only [List.cons_append, wtL, ih]; omega
theorem wtL_step {items : List JV} {j : Nat} {x : JV} (h : items[j]? = some x) : wtL (items.take (j + 1)) = wtL (items.take j) + wt x := by
  rw [List.take_add_one, h, wtL_append]; simp [wtL]
theorem wtN_step {l : List ByteArray} {j : Nat} {x : ByteArray} (h : l[j]? = some x) : wtN (l.take (j + 1)) = wtN (l.take j) + (2 + x.size) := by
  rw [List.take_add_one, h, wtN, wtN, List.map_append, List.sum_append]; simp

/-- What size answers: below 20000 it is how much there is. -/
def SizePost (items : List JV) (deep : Int) (w : World) (e : Ending) (w' : World) : Prop :=
  ∃ r : Int, e = .returned (.int .i64 r) ∧ 0 ≤ r ∧ r ≤ 50000 * (203 - deep) ∧ (r < 20000 → (wtL items : Int) = r) ∧ w = w'

set_option maxRecDepth 100000 in
set_option maxHeartbeats 2000000 in
theorem size_any (N : Nat) : ∀ (items : List JV) (v : Value) (deep : Int) (w : World), SizeOf.sizeOf items < N → ItemsAt w v items → 0 ≤ deep → deep ≤ 201 →
    Calls Tryd.prog 32 #[v, .int .i64 deep] w (SizePost items deep w) := by
  induction N with
  | zero => intro items v deep w h; omega
  | succ N ih =>
    intro items v deep w hN hI d0 d1
    have HI := Lib.hid ih
    clear ih
    obtain ⟨a, cap, rfl, hl, hI⟩ := hI.parts
    have Hit := Lib.hid hI
    clear hI
    obtain ⟨len, hlen⟩ : ∃ n, items.length = n := ⟨_, rfl⟩
    rw [hlen] at hl ⊢
    have HL := Lib.hid hlen
    clear hlen
    go_enter Tryd.func32, Tryd.ntmps32
    go_wp2_with fail
    go_loop [5, 6] (fun n i => ∃ (j : Nat) (m : Int), j ≤ len ∧ i = .int .i64 j ∧ n = .int .i64 m ∧ 0 ≤ m ∧ m ≤ 50000 * (203 - deep) ∧ Hid (m < 20000 → (wtL (items.take j) : Int) = m)) (fun _ i => len - (intOf i).toNat)
    case atStart => exact ⟨0, 0, by omega, rfl, rfl, by omega, by omega, fun _ => by simp [wtL]⟩
    case round =>
      obtain ⟨j, m, hj, rfl, rfl, m0, m1, HM⟩ := hrel
      by_cases hjl : j < len
      · by_cases hm : m < 20000
        · obtain ⟨x, hx⟩ : ∃ x, items[j]? = some x := ⟨_, List.getElem?_eq_getElem (by rw [HL.out]; exact hjl)⟩
          obtain ⟨b, o, vn, vi, rfl, h0, h1, h2, h3, h4, k0, k1, n0, n1, ht, hns, his⟩ := Hit.out j x hx
          obtain ⟨an, ncap, rfl, hnl, hnm, hnc⟩ := hns.parts
          have Hx := Lib.hid hx
          have Hnc := Lib.hid hnc
          have Hnm := Lib.hid hnm
          clear hx hns hnc hnm k0 k1 n0 n1 h0 h1
          unfold maxLen at ht
          have HMx := HM.out hm
          obtain ⟨nlen, hnlen⟩ : ∃ n, x.names.length = n := ⟨_, rfl⟩
          rw [hnlen] at h3 hnl
          have HNL := Lib.hid hnlen
          have HMX := Lib.hid HMx
          clear hnlen HMx
          by_cases ht2 : x.t.size < 20000
          all_goals
            go_wp2_with fail
            go_loop [5, 7] (fun n i => ∃ (kk : Nat) (m2 : Int), kk ≤ nlen ∧ i = .int .i64 kk ∧ n = .int .i64 m2 ∧ 0 ≤ m2 ∧ m2 ≤ 40006 ∧ Hid (m2 < 20000 → m2 = m + 4 + x.t.size + wtN (x.names.take kk))) (fun _ i => nlen - (intOf i).toNat)
            case atStart =>
              refine ⟨0, _, by omega, rfl, rfl, by omega, by omega, fun h => ?_⟩
              simp only [List.take_zero, wtN, List.map_nil, List.sum_nil]
              omega
            case round =>
              obtain ⟨kk, m2, hkk, rfl, rfl, g0, g1, HG⟩ := hrel
              by_cases hkl : kk < nlen
              · by_cases hm2 : m2 < 20000
                · obtain ⟨s, hs⟩ : ∃ s, x.names[kk]? = some s := ⟨_, List.getElem?_eq_getElem (by rw [HNL.out]; exact hkl)⟩
                  obtain ⟨nb, no_, rfl, hcell⟩ := Hnc.out kk s hs
                  have hsz : s.size ≤ 9223372036854775807 := Hnm.out s (List.mem_of_getElem? hs)
                  have HG2 := HG.out hm2
                  have hst := wtN_step hs
                  have HS : Hid (m2 + 2 + s.size = m + 4 + x.t.size + wtN (x.names.take (kk + 1))) := by show _ = _; rw [hst]; omega
                  clear hs HG2 hst
                  by_cases hs2 : s.size < 20000
                  all_goals
                    go_wp2_with fail
                    refine ⟨⟨kk + 1, _, by omega, by go_num, rfl, by omega, by omega, fun h => ?_⟩, ?_⟩
                    · have := HS.out
                      omega
                    · simp [intOf]; omega
                · have HR : Hid (m2 < 20000 → m2 = m + 4 + x.t.size + wtN x.names) := fun h => absurd h hm2
                  clear HG
                  by_cases hdeep : 200 < deep
                  · go_wp2_with fail
                    go_ret
                    exact ⟨20000, rfl, by omega, by omega, fun h => by omega, rfl⟩
                  · go_wp2_with fail
                    refine (HI.out x.items vi (deep + 1) _ (by have := items_lt Hx.out; omega) his (by omega) (by omega)).mono ?_
                    rintro e w' ⟨r, rfl, r0, r1, hr, rfl⟩
                    have HRR := Lib.hid hr
                    clear hr
                    go_wp2_with fail
                    refine ⟨⟨j + 1, _, by omega, by go_num, rfl, by omega, by omega, fun h => ?_⟩, ?_⟩
                    · rw [wtL_step Hx.out, wt_eq]
                      have e1 := HRR.out (by omega)
                      have e2 := HR.out (by omega)
                      have e3 := HMX.out
                      omega
                    · simp [intOf]; omega
              · have HR : Hid (m2 < 20000 → m2 = m + 4 + x.t.size + wtN x.names) := fun h => by
                  have := HG.out h
                  rwa [List.take_of_length_le (by rw [HNL.out]; omega)] at this
                clear HG
                by_cases hdeep : 200 < deep
                · go_wp2_with fail
                  go_ret
                  exact ⟨20000, rfl, by omega, by omega, fun h => by omega, rfl⟩
                · go_wp2_with fail
                  refine (HI.out x.items vi (deep + 1) _ (by have := items_lt Hx.out; omega) his (by omega) (by omega)).mono ?_
                  rintro e w' ⟨r, rfl, r0, r1, hr, rfl⟩
                  have HRR := Lib.hid hr
                  clear hr
                  go_wp2_with fail
                  refine ⟨⟨j + 1, _, by omega, by go_num, rfl, by omega, by omega, fun h => ?_⟩, ?_⟩
                  · rw [wtL_step Hx.out, wt_eq]
                    have e1 := HRR.out (by omega)
                    have e2 := HR.out (by omega)
                    have e3 := HMX.out
                    omega
                  · simp [intOf]; omega
        · have hbad : m < 20000 → (wtL items : Int) = m := fun h => absurd h hm
          have HB := Lib.hid hbad
          clear hbad
          go_wp2_with fail
          go_ret
          exact ⟨m, rfl, m0, m1, HB.out, rfl⟩
      · have hall : m < 20000 → (wtL items : Int) = m := fun h => by
          have := HM.out h
          rwa [List.take_of_length_le (by rw [HL.out]; omega)] at this
        have HB := Lib.hid hall
        clear hall
        go_wp2_with fail
        go_ret
        exact ⟨m, rfl, m0, m1, HB.out, rfl⟩

/-- Long: if it says no, there is less than 20000 in all. -/
def LongPost (items : List JV) (w : World) (e : Ending) (w' : World) : Prop :=
  ∃ r : Bool, e = .returned (.bool r) ∧ (r = false → wtL items < 20000) ∧ w = w'
set_option maxHeartbeats 400000 in
theorem long_any (items : List JV) (v : Value) (w : World) (h : ItemsAt w v items) :
    Calls Tryd.prog 15 #[v] w (LongPost items w) := by
  go_enter Tryd.func15, Tryd.ntmps15
  go_wp2_with fail
  refine (size_any _ items v 0 _ (Nat.lt_succ_self _) h (by omega) (by omega)).mono ?_
  rintro e w' ⟨r, rfl, r0, r1, hr, rfl⟩
  have HR := Lib.hid hr
  clear hr
  go_wp2_with fail
  go_ret
  refine ⟨_, rfl, fun h => ?_, rfl⟩
  have h2 : r < 20000 := by simpa using h
  have := HR.out h2
  omega
end Go.Proofs.YtjekdhahbkofbaaDoor
