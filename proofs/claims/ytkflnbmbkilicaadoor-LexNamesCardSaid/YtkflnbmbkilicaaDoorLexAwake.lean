/-
  legatelaw07.awake: the examples.
-/
import Derived.Test.YtkflnbmbkilicaaDoorLexAll
namespace Go.Proofs.YtkflnbmbkilicaaDoor
open Go.RowKit

theorem MarksOwn.slice {w : World} {B : Nat} {v : Value} {ms : List Mk} (h : MarksOwn w B v ms) : ∃ a cap, v = .slice a ms.length cap := by
  rcases h.2 with ⟨rfl, h0⟩ | ⟨g, cap, cur, rfl, _⟩
  · exact ⟨none, 0, by rw [h0]⟩
  · exact ⟨_, _, rfl⟩
/-- Marks lie in a row of a block. -/
def MkRow (w : World) (g : Nat) (ms : List Mk) : Prop := ∀ i m, ms[i]? = some m → w.cell? ⟨g, i * 5, none⟩ = some (.int .u8 m.k) ∧ w.cell? ⟨g, i * 5 + 1, none⟩ = some (.int .i64 m.a) ∧ w.cell? ⟨g, i * 5 + 2, none⟩ = some (.int .i64 m.z) ∧ w.cell? ⟨g, i * 5 + 3, none⟩ = some (.int .i64 m.n) ∧ w.cell? ⟨g, i * 5 + 4, none⟩ = some (.string ⟨m.t.toArray⟩)
theorem mksCells_get : ∀ (ms : List Mk) (i : Nat) (m : Mk), ms[i]? = some m → ∀ j, j < 5 → (mksCells ms)[i * 5 + j]? = (mkCells m)[j]?
  | [], i, m, h, _, _ => by simp at h
  | x :: r, 0, m, h, j, hj => by
    simp at h; subst h
    show (mkCells x ++ mksCells r)[0 * 5 + j]? = _
    rw [Nat.zero_mul, Nat.zero_add, List.getElem?_append_left (by simp [mkCells]; omega)]
  | x :: r, i + 1, m, h, j, hj => by
    show (mkCells x ++ mksCells r)[(i + 1) * 5 + j]? = _
    rw [List.getElem?_append_right (by simp [mkCells]; omega), ← mksCells_get r i m (by simpa using h) j hj]
    congr 1
    simp [mkCells]; omega
theorem MarksOwn.row {w : World} {B : Nat} {v : Value} {ms : List Mk} (h : MarksOwn w B v ms) (hne : ms ≠ []) : ∃ g cap, v = .slice (some ⟨g, 0, none⟩) ms.length cap ∧ B ≤ g ∧ MkRow w g ms := by
  have h' := h
  rcases h.2 with ⟨rfl, h0⟩ | ⟨g, cap, cur, rfl, hB, _⟩
  · exact absurd (List.length_eq_zero_iff.1 h0) hne
  · refine ⟨g, cap, rfl, hB, fun i m hm => ?_⟩
    have hc := World.ownsRow.cells h' (g := g) rfl
    have hadd : ∀ j, (⟨g, 0, none⟩ : Addr).add j = ⟨g, j, none⟩ := fun j => by unfold Addr.add; split <;> simp_all
    have hg := mksCells_get ms i m hm
    refine ⟨?_, ?_, ?_, ?_, ?_⟩
    · rw [← hadd]; exact hc _ _ ((hg 0 (by omega)).trans rfl)
    · rw [← hadd]; exact hc _ _ ((hg 1 (by omega)).trans rfl)
    · rw [← hadd]; exact hc _ _ ((hg 2 (by omega)).trans rfl)
    · rw [← hadd]; exact hc _ _ ((hg 3 (by omega)).trans rfl)
    · rw [← hadd]; exact hc _ _ ((hg 4 (by omega)).trans rfl)
theorem MkRow.keep {w w' : World} {g : Nat} {ms : List Mk} (h : MkRow w g ms) (hb : Below w.heap.size w w') : MkRow w' g ms := fun i m hm => by
  obtain ⟨a, b, c, d, e⟩ := h i m hm
  exact ⟨cell_keep hb a, cell_keep hb b, cell_keep hb c, cell_keep hb d, cell_keep hb e⟩
theorem awakeA : allR ⟨#[123, 32, 34, 97, 34, 32, 58, 49, 125]⟩ = ([⟨1, 0, 1, 0, []⟩, ⟨10, 2, 5, 0, [97]⟩, ⟨6, 6, 7, 0, []⟩, ⟨9, 7, 8, 1, []⟩, ⟨2, 8, 9, 0, []⟩, ⟨11, 9, 9, 0, []⟩], 0, 0) := by kernel_rfl
theorem awakeB : resV (nextM (⟨#[116, 114, 117, 101, 120]⟩ : ByteArray).data.toList 0) = (0, 0, 0, 0, ⟨#[]⟩, 3) := by kernel_rfl
theorem awakeC : allR ⟨#[91, 49, 46, 53, 93]⟩ = ([], 1, 3) := by kernel_rfl
theorem awakeD : allR ⟨#[32]⟩ = ([⟨11, 1, 1, 0, []⟩], 0, 0) := by kernel_rfl
set_option maxRecDepth 100000 in
set_option maxHeartbeats 4000000 in
theorem awake7_any (w : World) (henv : NumEnv w) :
    Calls Tryd.prog 12 #[] w fun e w' => e = .returned (.bool true) ∧ Below w.heap.size w w' := by
  go_enter Tryd.func12, Tryd.ntmps12
  go_wp2_with fail
  refine (lexAll_any _ _ (by decide) henv _ awakeA).mono ?_
  rintro e w1 ⟨v1, rfl, hm1, hb1⟩
  have henv1 := henv.below hb1
  obtain ⟨g, cap, rfl, hg, hrow⟩ := hm1.row (by simp)
  clear hm1 henv
  go_wp2_with fail
  refine (lexNext_in _ 0 _ (by decide) (by decide) henv1 _ _ _ _ _ _ awakeB).mono ?_
  rintro e w2 ⟨rfl, hb2⟩
  have henv2 := henv1.below hb2
  have hrow2 := hrow.keep hb2
  have hw2 := below_more hb1 hb2
  clear henv1 hrow hb1 hb2
  go_wp2_with fail
  have hal : Below w2.heap.size w2 (w2.alloc (.cells #[.int .u8 0, .int .i64 0, .int .i64 0, .int .i64 0, .string ⟨#[]⟩] 28)) := bel_alloc (Below.refl _ _) _
  refine (lexAll_any _ _ (by decide) (henv2.below hal) _ awakeC).mono ?_
  rintro e w3 ⟨v3, rfl, hm3, hb3⟩
  obtain ⟨a3, c3, rfl⟩ := hm3.slice
  have henv3 := (henv2.below hal).below hb3
  have hrow3 := (hrow2.keep hal).keep hb3
  have hw3 := below_more (below_more hw2 hal) hb3
  clear henv2 hrow2 hw2 hb3 hal hm3
  go_wp2_with fail
  refine (lexAll_any _ _ (by decide) henv3 _ awakeD).mono ?_
  rintro e w4 ⟨v4, rfl, hm4, hb4⟩
  obtain ⟨a4, c4, rfl⟩ := hm4.slice
  have hrow4 := hrow3.keep hb4
  have hw4 := below_more hw3 hb4
  clear hrow3 hw3 hb4 hm4 henv3
  have k0 := (hrow4 0 _ rfl).1
  obtain ⟨k1, k1a, k1z, -, k1t⟩ := hrow4 1 _ rfl
  have k2 := (hrow4 2 _ rfl).1
  obtain ⟨k3, -, -, k3n, -⟩ := hrow4 3 _ rfl
  have k4 := (hrow4 4 _ rfl).1
  have k5 := (hrow4 5 _ rfl).1
  clear hrow4
  simp only [Nat.reduceMul, Nat.reduceAdd] at k0 k1 k1a k1z k1t k2 k3 k3n k4 k5
  go_wp2_with fail
  go_ret
  exact ⟨rfl, hw4⟩
end Go.Proofs.YtkflnbmbkilicaaDoor
