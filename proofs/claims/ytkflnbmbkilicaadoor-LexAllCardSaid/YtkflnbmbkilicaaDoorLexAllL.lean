/-
  The walk of the law LexAll.
-/
import Derived.Test.YtkflnbmbkilicaaDoorLexAwake
import Derived.Test.YtkflnbmbkilicaaDoorRefAll
import Derived.Test.YtkflnbmbkilicaaDoorBlk
import Derived.BigQuiet
import Derived.Laws.StructEq
namespace Go.Proofs.YtkflnbmbkilicaaDoor
open Go.RowKit

theorem Marks7Own.slice {w : World} {B : Nat} {v : Value} {ms : List Mk} (h : Marks7Own w B v ms) : ∃ a cap, v = .slice a ms.length cap := by
  rcases h.2 with ⟨rfl, h0⟩ | ⟨g, cap, cur, rfl, _⟩
  · exact ⟨none, 0, by rw [h0]⟩
  · exact ⟨_, _, rfl⟩
theorem Marks7Own.row {w : World} {B : Nat} {v : Value} {ms : List Mk} (h : Marks7Own w B v ms) (hne : ms ≠ []) : ∃ g cap, v = .slice (some ⟨g, 0, none⟩) ms.length cap ∧ B ≤ g ∧ MkRow w g ms := by
  have h' := h
  rcases h.2 with ⟨rfl, h0⟩ | ⟨g, cap, cur, rfl, hB, _⟩
  · exact absurd (List.length_eq_zero_iff.1 h0) hne
  · refine ⟨g, cap, rfl, hB, fun i m hm => ?_⟩
    have hc := World.ownsRow.cells h' (g := g) rfl
    have hadd : ∀ j, (⟨g, 0, none⟩ : Addr).add j = ⟨g, j, none⟩ := fun j => by unfold Addr.add; split <;> simp_all
    have hg := mksCells_get ms i m hm
    refine ⟨?_, ?_, ?_, ?_, ?_⟩
    · rw [← hadd]; exact hc _ _ ((hg 0 (by omega)).trans rfl)
    · rw [← hadd]; exact hc _ _ ((hg 1 (by omega)).trans rfl)
    · rw [← hadd]; exact hc _ _ ((hg 2 (by omega)).trans rfl)
    · rw [← hadd]; exact hc _ _ ((hg 3 (by omega)).trans rfl)
    · rw [← hadd]; exact hc _ _ ((hg 4 (by omega)).trans rfl)
theorem marks_len7 {w : World} {B : Nat} {v : Value} {ms : List Mk} (h : MarksOwn w B v ms) : ms.length ≤ 9223372036854775807 := by
  rcases h.2 with ⟨_, h0⟩ | ⟨g, cap, cur, _, _, _, h1, h2, _⟩
  · omega
  · unfold maxLen at h2; omega
/-- Marks from the i-th one on lie in a block that may be written. -/
def RestAt (w : World) (g i : Nat) (ms : List Mk) : Prop := ∃ cs t, BlkAt w g t cs ∧ ∀ j m, i ≤ j → ms[j]? = some m → ∀ k, k < 5 → cs[j * 5 + k]? = (mkCells m)[k]?
theorem MarksOwn.rest {w : World} {B : Nat} {v : Value} {ms : List Mk} (h : MarksOwn w B v ms) (hne : ms ≠ []) : ∃ g cap, v = .slice (some ⟨g, 0, none⟩) ms.length cap ∧ B ≤ g ∧ RestAt w g 0 ms := by
  rcases h.2 with ⟨rfl, h0⟩ | ⟨g, cap, cur, rfl, hB, hh, h1, h2, h3, h4⟩
  · exact absurd (List.length_eq_zero_iff.1 h0) hne
  · refine ⟨g, cap, rfl, hB, cur, _, hh, fun j m _ hm k hk => ?_⟩
    have hg := mksCells_get ms j m hm k hk
    rw [← hg, ← h4, List.getElem?_take_of_lt]
    · simp
    · have := (List.getElem?_eq_some_iff.1 hm).1
      omega
theorem RestAt.cells {w : World} {g i : Nat} {ms : List Mk} (h : RestAt w g i ms) {m : Mk} (hm : ms[i]? = some m) :
    (w.cell? ⟨g, i * 5, none⟩ = some (.int .u8 m.k) ∧ w.cell? ⟨g, i * 5 + 1, none⟩ = some (.int .i64 m.a) ∧ w.cell? ⟨g, i * 5 + 2, none⟩ = some (.int .i64 m.z) ∧ w.cell? ⟨g, i * 5 + 3, none⟩ = some (.int .i64 m.n) ∧ w.cell? ⟨g, i * 5 + 4, none⟩ = some (.string ⟨m.t.toArray⟩)) ∧ ∀ o, w.frozen? ⟨g, o, none⟩ = false := by
  obtain ⟨cs, t, hb, hc⟩ := h
  have hg := hc i m (Nat.le_refl _) hm
  exact ⟨⟨(hb.cell _).trans (hg 0 (by omega)), (hb.cell _).trans (hg 1 (by omega)), (hb.cell _).trans (hg 2 (by omega)), (hb.cell _).trans (hg 3 (by omega)), (hb.cell _).trans (hg 4 (by omega))⟩, fun o => hb.free o⟩
theorem RestAt.set {w : World} {g i : Nat} {ms : List Mk} (h : RestAt w g i ms) (v0 v1 v2 v3 v4 : Value) : RestAt (((((w.setCell ⟨g, i * 5, none⟩ v0).setCell ⟨g, i * 5 + 1, none⟩ v1).setCell ⟨g, i * 5 + 2, none⟩ v2).setCell ⟨g, i * 5 + 3, none⟩ v3).setCell ⟨g, i * 5 + 4, none⟩ v4) g (i + 1) ms := by
  obtain ⟨cs, t, hb, hc⟩ := h
  refine ⟨_, t, ((((hb.set _ v0).set _ v1).set _ v2).set _ v3).set _ v4, fun j m hj hm k hk => ?_⟩
  rw [Array.getElem?_setIfInBounds_ne (by omega), Array.getElem?_setIfInBounds_ne (by omega), Array.getElem?_setIfInBounds_ne (by omega), Array.getElem?_setIfInBounds_ne (by omega), Array.getElem?_setIfInBounds_ne (by omega)]
  exact hc j m (by omega) hm k hk
theorem RestAt.drewN {w : World} {g i : Nat} {ms : List Mk} (h : RestAt w g i ms) (n : Nat) : RestAt (w.drewN n) g i ms := h
theorem bel_set5' {B : Nat} {a b : World} (h : Below B a b) {g : Nat} (hg : B ≤ g) (o0 o1 o2 o3 o4 : Nat) (v0 v1 v2 v3 v4 : Value) : Below B a (((((b.setCell ⟨g, o0, none⟩ v0).setCell ⟨g, o1, none⟩ v1).setCell ⟨g, o2, none⟩ v2).setCell ⟨g, o3, none⟩ v3).setCell ⟨g, o4, none⟩ v4) :=
  ((((h.setCell hg _).setCell hg _).setCell hg _).setCell hg _).setCell hg _
set_option maxRecDepth 100000 in
set_option maxHeartbeats 8000000 in
theorem lexAll_walk (s : ByteArray) (w : World) (w0 : s.size ≤ maxLen) (henv : NumEnv w) :
    Calls Tryd.prog 5 #[.string s] w fun e w' => e = .returned (.bool true) ∧ Below w.heap.size w w' := by
  unfold maxLen at w0
  by_cases hl : 3000 < s.size
  · have hd : decide (3000 < (s.size : Int)) = true := by simp; omega
    go_enter Tryd.func5, Tryd.ntmps5
    go_wp2_with fail
    refine (awake7_any _ henv).mono ?_
    rintro e w3 ⟨rfl, hb3⟩
    go_wp2_with fail
    go_ret
    exact ⟨rfl, hb3⟩
  · have hd : decide (3000 < (s.size : Int)) = false := by simp; omega
    have hs : s.size ≤ 281474976710656 := by omega
    obtain ⟨ms, pl, er, hR⟩ : ∃ ms pl er, allR s = (ms, pl, er) := ⟨_, _, _, rfl⟩
    have HR := Lib.hid hR
    have HR7 := Lib.hid (fun W => refAll_any s W hs _ hR)
    clear hR hl
    by_cases hne : ms = []
    · subst hne
      go_enter Tryd.func5, Tryd.ntmps5
      go_wp2_with fail
      refine (HR7.out _).mono ?_
      rintro e w1 ⟨v7, rfl, hm7, hb1⟩
      obtain ⟨a7, c7, rfl⟩ := hm7.slice
      clear hm7 HR7
      go_wp2_with fail
      go_loopw [6] (fun i wr => ∃ k : Nat, k ≤ 2 ∧ i = .int .i64 k ∧ Below w.heap.size w wr) (fun i _ => 2 - (intOf i).toNat)
      case atStart => exact ⟨0, by omega, rfl, hb1⟩
      case round =>
        obtain ⟨k, hk, rfl, hBr⟩ := hrel
        by_cases hk2 : k < 2
        · go_wp2_with fail
          refine (lexAll_any s _ hs (henv.below hBr) _ HR).mono ?_
          rintro e w4 ⟨v, rfl, hm4, hb4⟩
          obtain ⟨a4, c4, rfl⟩ := hm4.slice
          have hB4 := below_more hBr hb4
          clear hm4 hb4
          go_wp2_with fail
          refine wp_loop_rounds 1 ?_
          rw [rounds_succ]
          go_wp2_with fail
          exact ⟨⟨k + 1, by omega, by go_num, hB4⟩, by simp [intOf]; omega⟩
        · go_wp2_with fail
          refine (awake7_any _ (henv.below hBr)).mono ?_
          rintro e w3 ⟨rfl, hb3⟩
          go_wp2_with fail
          go_ret
          exact ⟨rfl, below_more hBr hb3⟩
    · go_enter Tryd.func5, Tryd.ntmps5
      go_wp2_with fail
      refine (HR7.out _).mono ?_
      rintro e w1 ⟨v7, rfl, hm7, hb1⟩
      obtain ⟨g7, c7, rfl, hg7, hmk7⟩ := hm7.row hne
      have HMK7 := Lib.hid hmk7
      clear hm7 HR7 hmk7
      go_wp2_with fail
      go_loopw [6] (fun i wr => ∃ k : Nat, k ≤ 2 ∧ i = .int .i64 k ∧ Below w1.heap.size w1 wr) (fun i _ => 2 - (intOf i).toNat)
      case atStart => exact ⟨0, by omega, rfl, Below.refl _ _⟩
      case round =>
        obtain ⟨k, hk, rfl, hBr⟩ := hrel
        have hBw := below_more hb1 hBr
        by_cases hk2 : k < 2
        · go_wp2_with fail
          refine (lexAll_any s _ hs (henv.below hBw) _ HR).mono ?_
          rintro e w4 ⟨v, rfl, hm4, hb4⟩
          have hlen : ms.length ≤ 9223372036854775807 := marks_len7 hm4
          obtain ⟨g, c4, rfl, hg, hrest⟩ := hm4.rest hne
          have HREST := Lib.hid hrest
          have hB4 := below_more hBr hb4
          have hgs : w1.heap.size ≤ g := by have := hBr.size; omega
          obtain ⟨wo, hwo⟩ : ∃ wo, wo = wr := ⟨_, rfl⟩
          clear hm4 hb4 hrest
          go_wp2_with fail
          go_loopw [10] (fun i wr => ∃ j : Nat, j ≤ ms.length ∧ i = .int .i64 j ∧ Hid (RestAt wr g j ms) ∧ Below w1.heap.size w1 wr) (fun i _ => ms.length - (intOf i).toNat)
          case atStart => exact ⟨0, by omega, rfl, HREST, hB4⟩
          case round =>
            obtain ⟨j, hj, rfl, HRS, hBi⟩ := hrel
            clear HREST hB4 hBr hBw hwo
            by_cases hlt : j < ms.length
            · have hm : ms[j]? = some ms[j] := List.getElem?_eq_getElem hlt
              obtain ⟨⟨c0, c1, c2, c3, c4⟩, hfr⟩ := HRS.out.cells hm
              obtain ⟨d0, d1, d2, d3, d4⟩ := (HMK7.out.keep hBi) j _ hm
              obtain ⟨m, hmm⟩ : ∃ m, ms[j] = m := ⟨_, rfl⟩
              rw [hmm] at c0 c1 c2 c3 c4 d0 d1 d2 d3 d4
              have i0 : (0 : Int) ≤ (j : Int) := by omega
              have i1 : (j : Int) < (ms.length : Int) := by omega
              have f0 := hfr (j * 5)
              have f1 := hfr (j * 5 + 1)
              have f2 := hfr (j * 5 + 2)
              have f3 := hfr (j * 5 + 3)
              have f4 := hfr (j * 5 + 4)
              clear hfr hm hmm
              go_wp2_with fail
              go_quiet (fail)
              go_wp2_with fail
              refine ⟨⟨j + 1, by omega, by go_num, ?_, ?_⟩, by simp [intOf]; omega⟩
              · exact (HRS.out.drewN nq).set _ _ _ _ _
              · exact bel_set5' (bel_drewN hBi _) hgs _ _ _ _ _ _ _ _ _ _
            · obtain rfl : j = ms.length := by omega
              go_wp2_with fail
              exact ⟨⟨k + 1, by omega, by go_num, hBi⟩, by simp [intOf]; omega⟩
        · go_wp2_with fail
          refine (awake7_any _ (henv.below hBw)).mono ?_
          rintro e w3 ⟨rfl, hb3⟩
          go_wp2_with fail
          go_ret
          exact ⟨rfl, below_more hBw hb3⟩
end Go.Proofs.YtkflnbmbkilicaaDoor
