/-
  lex.Next and lex.All.
-/
import Derived.Test.YtfdecbfcddkoiaaGreatDoorLexToken
namespace Go.Proofs.YtfdecbfcddkoiaaGreatDoor
open Go.RowKit

theorem infoMark : (Tryz.prog.info? 41).map (fun i => (i.zero, i.size, i.bytes)) = some (some (.agg #[.int .u8 0, .int .i64 0, .int .i64 0, .int .i64 0, .string ⟨#[]⟩]), 5, 48) := by kernel_rfl
/-- A mark's cells. -/
def mkCells (m : Mk) : List Value := [.int .u8 m.k, .int .i64 m.a, .int .i64 m.z, .int .i64 m.n, .string ⟨m.t.toArray⟩]
def mksCells (ms : List Mk) : List Value := ms.flatMap mkCells
theorem mksCells_len (ms : List Mk) : (mksCells ms).length = ms.length * 5 := by
  induction ms with
  | nil => rfl
  | cons m r ih => simp only [mksCells, List.flatMap_cons, List.length_append, List.length_cons] at *; rw [ih]; simp [mkCells]; omega
theorem mksCells_snoc (ms : List Mk) (m : Mk) : mksCells (ms ++ [m]) = mksCells ms ++ mkCells m := by simp [mksCells]
/-- A row of marks of the call's own. -/
def MarksOwn (w : World) (B : Nat) (v : Value) (ms : List Mk) : Prop := w.ownsRow B 41 5 v ms.length (mksCells ms)
theorem grown_of {w w' : World} (hb : Below w.heap.size w w') (row : Option Nat) : w.grownBy w' row := ⟨hb.os, hb.tape, hb.output, hb.size, fun k hk _ => hb.block k hk⟩
theorem ownsRow_keep {w w' : World} {B : Nat} {e : TypeId} {size : Nat} {v : Value} {n : Nat} {xs : List Value} (h : w.ownsRow B e size v n xs) (hb : Below w.heap.size w w') : w'.ownsRow B e size v n xs := by
  cases hv : v.ownBlock with
  | none => exact h.kept (grown_of hb none) (Or.inl hv)
  | some g => exact h.kept (grown_of hb none) (Or.inr (by rw [hv]; simp))
theorem MarksOwn.keep {w w' : World} {B : Nat} {v : Value} {ms : List Mk} (h : MarksOwn w B v ms) (hb : Below w.heap.size w w') : MarksOwn w' B v ms := ownsRow_keep h hb

set_option maxRecDepth 100000 in
set_option maxHeartbeats 2000000 in
theorem lexNext_out (s : ByteArray) (a : Int) (w : World) (h : a < 0 ∨ (s.size : Int) < a) :
    Calls Tryz.prog 25 #[.string s, .int .i64 a] w fun e w' => e = .returned (.tuple #[.agg #[.int .u8 0, .int .i64 0, .int .i64 0, .int .i64 0, .string ⟨#[]⟩], .int .i64 1]) ∧ Below w.heap.size w w' := by
  have h2 : a < 0 ∨ (¬ a < 0 ∧ (s.size : Int) < a) := by omega
  clear h
  rcases h2 with h | ⟨h, h'⟩
  all_goals
    go_enter Tryz.func25, Tryz.ntmps25
    go_wp2_with fail
    exact bodyPost_ret (v := .tuple #[.agg #[.int .u8 0, .int .i64 0, .int .i64 0, .int .i64 0, .string ⟨#[]⟩], .int .i64 1]) (by simp [results, Tryz.results25, go_sem]) rfl ⟨rfl, bel_alloc (Below.refl _ _) _⟩
theorem nextM_eq (l : List UInt8) (p : Nat) : nextM l p = tokR (p + blanks (l.drop p)) (tokP (l.drop (p + blanks (l.drop p)))) := by
  unfold nextM tokR tokB
  rw [List.drop_drop]
set_option maxRecDepth 100000 in
set_option maxHeartbeats 2000000 in
theorem lexNext_in (s : ByteArray) (a : Nat) (w : World) (hs : s.size ≤ 281474976710656) (ha : a ≤ s.size) (henv : NumEnv w) (k x z n : Int) (t : ByteArray) (er : Int) (hr : Hid (resV (nextM s.data.toList a) = (k, x, z, n, t, er))) :
    Calls Tryz.prog 25 #[.string s, .int .i64 a] w fun e w' => e = .returned (.tuple #[.agg #[.int .u8 k, .int .i64 x, .int .i64 z, .int .i64 n, .string t], .int .i64 er]) ∧ Below w.heap.size w w' := by
  obtain ⟨q, hq⟩ : ∃ q, a + blanks (s.data.toList.drop a) = q := ⟨_, rfl⟩
  have hqs : q ≤ s.size := by have := blanks_le (s.data.toList.drop a); rw [List.length_drop, size_len] at this; omega
  have h := hr.out
  rw [nextM_eq, hq] at h
  have HS := Lib.hid (fun W => skip_any s a W hs ha q hq)
  have HT := Lib.hid (fun W b hE hR => token_any s q b W hs hqs hE hR k x z n t er h)
  have hng : decide ((a : Int) < 0) = false := by simp
  have hlt : ¬ (s.size : Int) < (a : Int) := by omega
  clear h hr hq
  go_enter Tryz.func25, Tryz.ntmps25
  go_wp2_with fail
  refine (rules_any _).mono ?_
  rintro e w1 ⟨rfl, hb1⟩
  have hsz1 : w.heap.size < w1.heap.size := by have := hb1.size; simp at this; omega
  have hw1 : Below w.heap.size w w1 := below_more (bel_alloc (Below.refl _ _) _) hb1
  go_wp2_with (with_reducible refine wpList_store_row rfl 77 (.tmp 6) (.tmp 16) rfl w1.heap.size ruleT ?c1 ?c2 77 Tryz.zeroCells77 ?c3 ?c4 ?c5 ?c6 ?_)
  case c1 => rfl
  case c2 => rfl
  case c3 => exact heap_alloc_last w1 _
  case c4 => rw [ruleT_size]; exact infoRules
  case c5 => rw [ruleT_size]; exact ruleZ_size
  case c6 => exact ruleT_one'
  rw [World.setRow_alloc_new]
  have hR2 : RulesAt (w1.alloc (.cells ruleT 77)) w1.heap.size := heap_alloc_last w1 _
  have hw2 : Below w.heap.size w (w1.alloc (.cells ruleT 77)) := bel_alloc hw1 _
  have hE2 := henv.below hw2
  obtain ⟨hc1, hf1⟩ := bcell hb1
  clear hw1 hb1
  go_wp2_with fail
  refine (HS.out _).mono ?_
  rintro e w3 ⟨rfl, rfl⟩
  go_wp2_with fail
  refine (HT.out _ _ hE2 hR2).mono ?_
  rintro e w3 ⟨rfl, hb3⟩
  have hsz3 : w.heap.size < w3.heap.size := by have := hb3.size; rw [size_al] at this; omega
  obtain ⟨hc3, hf3⟩ := bcell hb3
  have d0 : w3.cell? ⟨w.heap.size, 0, none⟩ = some (.int .u8 0) := by
    rw [hc3 _ _ (by rw [size_al]; omega), cell_al_lt _ _ _ _ hsz1, hc1 _ _ (by rw [size_al]; omega), cell_al_eq _ _ _ _ _ rfl]; rfl
  have d1 : w3.cell? ⟨w.heap.size, 1, none⟩ = some (.int .i64 0) := by
    rw [hc3 _ _ (by rw [size_al]; omega), cell_al_lt _ _ _ _ hsz1, hc1 _ _ (by rw [size_al]; omega), cell_al_eq _ _ _ _ _ rfl]; rfl
  have d2 : w3.cell? ⟨w.heap.size, 2, none⟩ = some (.int .i64 0) := by
    rw [hc3 _ _ (by rw [size_al]; omega), cell_al_lt _ _ _ _ hsz1, hc1 _ _ (by rw [size_al]; omega), cell_al_eq _ _ _ _ _ rfl]; rfl
  have d3 : w3.cell? ⟨w.heap.size, 3, none⟩ = some (.int .i64 0) := by
    rw [hc3 _ _ (by rw [size_al]; omega), cell_al_lt _ _ _ _ hsz1, hc1 _ _ (by rw [size_al]; omega), cell_al_eq _ _ _ _ _ rfl]; rfl
  have d4 : w3.cell? ⟨w.heap.size, 4, none⟩ = some (.string ⟨#[]⟩) := by
    rw [hc3 _ _ (by rw [size_al]; omega), cell_al_lt _ _ _ _ hsz1, hc1 _ _ (by rw [size_al]; omega), cell_al_eq _ _ _ _ _ rfl]; rfl
  go_wp2_with fail
  exact bodyPost_ret (v := .tuple #[.agg #[.int .u8 k, .int .i64 x, .int .i64 z, .int .i64 n, .string t], .int .i64 er]) (by simp [results, Tryz.results25, go_sem, d0, d1, d2, d3, d4]) rfl ⟨rfl, bel_set5 (below_more hw2 hb3) (Nat.le_refl _) _ _ _ _ _⟩

/-! All. -/
theorem own_ne {w : World} {B : Nat} {e : TypeId} {size : Nat} {v : Value} {n : Nat} {xs : List Value} (h : w.ownsRow B e size v n xs) {b : Nat} {cs : Array Value} {t : TypeId} {fr : Nat × Nat} (hb : w.heap[b]? = some (.cells cs t fr)) (hne : t ≠ e) : some b ≠ v.ownBlock := by
  intro hv
  rcases h.2 with ⟨rfl, _⟩ | ⟨g, cap, cur, rfl, _, hg, _⟩
  · cases hv
  · have : b = g := by simpa [Value.ownBlock] using hv
    subst this
    rw [hb] at hg
    cases hg
    exact hne rfl
def AllPost (R : Res) (w : World) (e : Ending) (w' : World) : Prop := ∃ v, e = .returned (.tuple #[v, .int .i64 (R.2.1 : Int), .int .i64 R.2.2]) ∧ MarksOwn w' w.heap.size v R.1 ∧ Below w.heap.size w w'
def allR (s : ByteArray) : Res := if 65536 < s.size then ([], 0, 5) else allP s.data.toList 0
theorem markNew {_w : World} {k x z n : Int} {t : ByteArray} (m : Mk) (h : Hid (k = m.k ∧ x = (m.a : Int) ∧ z = (m.z : Int) ∧ n = m.n ∧ t = ⟨m.t.toArray⟩)) : [Value.int .u8 k, .int .i64 x, .int .i64 z, .int .i64 n, .string t] = mkCells m := by
  obtain ⟨rfl, rfl, rfl, rfl, rfl⟩ := h.out
  rfl
end Go.Proofs.YtfdecbfcddkoiaaGreatDoor
