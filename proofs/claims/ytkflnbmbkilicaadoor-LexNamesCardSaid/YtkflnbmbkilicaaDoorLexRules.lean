/-
  lex.rules: the readers by their first bytes.
-/
import Derived.Test.YtkflnbmbkilicaaDoorLexWord
import Derived.Laws.EntriesVeiled
import Derived.Deep.WholeRow
namespace Go.Proofs.YtkflnbmbkilicaaDoor
open Go.RowKit

def ruleT0 (Z : Array Value) : Array Value := (((((((((Z.setIfInBounds 123 (.func (.func 31) #[] #[])).setIfInBounds 125 (.func (.func 32) #[] #[])).setIfInBounds 91 (.func (.func 33) #[] #[])).setIfInBounds 93 (.func (.func 34) #[] #[])).setIfInBounds 44 (.func (.func 35) #[] #[])).setIfInBounds 58 (.func (.func 36) #[] #[])).setIfInBounds 45 (.func (.func 37) #[] #[])).setIfInBounds 43 (.func (.func 37) #[] #[])).setIfInBounds 46 (.func (.func 37) #[] #[])).setIfInBounds 34 (.func (.func 38) #[] #[])
def ruleT1 (Z : Array Value) : Nat → Array Value
  | 0 => ruleT0 Z
  | k + 1 => (ruleT1 Z k).setIfInBounds (48 + k) (.func (.func 37) #[] #[])
def ruleT2 (Z : Array Value) : Nat → Array Value
  | 0 => ruleT1 Z 10
  | k + 1 => (ruleT2 Z k).setIfInBounds (97 + k) (.func (.func 39) #[] #[])
theorem ruleZ_size : Tryd.zeroCells56.size = 256 := by kernel_rfl
theorem ruleT0_size {Z : Array Value} (h : Z.size = 256) : (ruleT0 Z).size = 256 := by unfold ruleT0; simp only [Array.size_setIfInBounds]; exact h
theorem ruleT1_size {Z : Array Value} (h : Z.size = 256) : ∀ k, (ruleT1 Z k).size = 256
  | 0 => ruleT0_size h
  | k + 1 => by rw [ruleT1, Array.size_setIfInBounds]; exact ruleT1_size h k
theorem ruleT2_size {Z : Array Value} (h : Z.size = 256) : ∀ k, (ruleT2 Z k).size = 256
  | 0 => ruleT1_size h 10
  | k + 1 => by rw [ruleT2, Array.size_setIfInBounds]; exact ruleT2_size h k
theorem ruleT0_one : (ruleT0 Tryd.zeroCells56).all (·.oneCell') = true := by kernel_rfl
theorem ruleT_one : (ruleT2 Tryd.zeroCells56 26).all (·.oneCell') = true := by kernel_rfl
theorem infoRules : (Tryd.prog.info? 56).map (·.size) = some 256 := by kernel_rfl
/-- The reader of the marks that begin with a byte. -/
def ruleV (c : Nat) : Value :=
  if c = 123 then .func (.func 31) #[] #[] else if c = 125 then .func (.func 32) #[] #[] else if c = 91 then .func (.func 33) #[] #[] else if c = 93 then .func (.func 34) #[] #[] else if c = 44 then .func (.func 35) #[] #[] else if c = 58 then .func (.func 36) #[] #[]
  else if c = 34 then .func (.func 38) #[] #[] else if (48 ≤ c ∧ c ≤ 57) ∨ c = 45 ∨ c = 43 ∨ c = 46 then .func (.func 37) #[] #[] else if 97 ≤ c ∧ c ≤ 122 then .func (.func 39) #[] #[] else .nilFunc
def ruleT : Array Value := ((List.range 256).map ruleV).toArray
theorem ruleT_eq : ruleT2 Tryd.zeroCells56 26 = ruleT := by kernel_rfl
theorem ruleT_get {c : Nat} (h : c < 256) : ruleT[c]? = some (ruleV c) := by
  unfold ruleT
  rw [List.getElem?_toArray, List.getElem?_map, List.getElem?_range h]
  rfl
theorem ruleT_size : ruleT.size = 256 := by rw [← ruleT_eq]; exact ruleT2_size ruleZ_size 26
theorem ruleT_one' : ruleT.all (·.oneCell') = true := by rw [← ruleT_eq]; exact ruleT_one
theorem set_al (w : World) (c : Array Value) (t : TypeId) (g i : Nat) (v : Value) (hg : g = w.heap.size) : (w.alloc (.cells c t)).setCell ⟨g, i, none⟩ v = w.alloc (.cells (c.setIfInBounds i v) t) := by
  subst hg
  have hh : (w.alloc (.cells c t)).heap[w.heap.size]? = some (.cells c t (0, 0)) := heap_alloc_last w _
  rw [setCell_eq_setRow _ _ i c t (0, 0) v hh, World.setRow_alloc_new]
theorem bel_setRow {a b : World} (h : Below a.heap.size a b) {g : Nat} (cs : Array Value) (hg : a.heap.size ≤ g) : Below a.heap.size a (b.setRow g cs) :=
  ⟨h.os, h.tape, h.output, by rw [size_setRow]; exact h.size, fun k hk => by rw [setRow_other b g k cs (by omega)]; exact h.block k hk⟩
set_option maxRecDepth 100000 in
set_option maxHeartbeats 2000000 in
theorem rules_any (w : World) : Calls Tryd.prog 22 #[] w fun e w' => e = .returned (.agg ruleT) ∧ Below w.heap.size w w' := by
  rw [← ruleT_eq]
  go_enter Tryd.func22, Tryd.ntmps22
  go_wp2_with (with_reducible refine wpList_store_row rfl 56 (.tmp 1) (.tmp 14) rfl (w.heap.size + 1) (ruleT0 Tryd.zeroCells56) ?c1 ?c2 56 Tryd.zeroCells56 ?c3 ?c4 ?c5 ?c6 ?_)
  case c1 => rfl
  case c2 => rfl
  case c3 => exact heap_alloc2_new w _ _
  case c4 => rw [ruleT0_size ruleZ_size]; exact infoRules
  case c5 => rw [ruleT0_size ruleZ_size]; exact ruleZ_size
  case c6 => exact ruleT0_one
  have hw0 : ((w.alloc (.cells Tryd.zeroCells56 56)).alloc (.cells Tryd.zeroCells56 56)).setRow (w.heap.size + 1) (ruleT0 Tryd.zeroCells56) = (w.alloc (.cells Tryd.zeroCells56 56)).alloc (.cells (ruleT1 Tryd.zeroCells56 0) 56) := by
    rw [← size_al w (.cells Tryd.zeroCells56 56), World.setRow_alloc_new]; rfl
  obtain ⟨W1, hW1⟩ : ∃ W1, W1 = w.alloc (.cells Tryd.zeroCells56 56) := ⟨_, rfl⟩
  rw [← hW1] at hw0
  rw [← hW1]
  have hz1 : W1.heap.size = w.heap.size + 1 := by rw [hW1]; exact size_al _ _
  rw [hw0]
  have HW1 := Lib.hid hW1
  have HZ1 := Lib.hid hz1
  clear hw0 hW1 hz1
  go_loopw [2] (fun c wr => ∃ k : Nat, k ≤ 10 ∧ c = .int .i32 (48 + k) ∧ Hid (wr = W1.alloc (.cells (ruleT1 Tryd.zeroCells56 k) 56))) (fun c _ => 58 - (intOf c).toNat)
  case atStart => exact ⟨0, by omega, rfl, rfl⟩
  case round =>
    obtain ⟨k, hk, rfl, HW⟩ := hrel
    by_cases hlt : k < 10
    · have hs1 : 48 + k < (ruleT1 Tryd.zeroCells56 k).size := by rw [ruleT1_size ruleZ_size]; omega
      have hc : wr.cell? ⟨w.heap.size + 1, 48 + k, none⟩ = some (ruleT1 Tryd.zeroCells56 k)[48 + k] := by
        rw [HW.out, cell_al_eq _ _ _ _ _ HZ1.out.symm, Array.getElem?_eq_getElem hs1]
      have hf : wr.frozen? ⟨w.heap.size + 1, 48 + k, none⟩ = false := by
        rw [HW.out]
        exact frozen_of_row _ _ _ (ruleT1 Tryd.zeroCells56 k) 56 (by rw [← HZ1.out]; exact heap_alloc_last W1 _)
      generalize (ruleT1 Tryd.zeroCells56 k)[48 + k] = u at hc
      clear hs1
      go_wp2_with fail
      refine ⟨⟨k + 1, by omega, by go_num, ?_⟩, by simp [intOf]; omega⟩
      show _ = _
      rw [HW.out, set_al _ _ _ _ _ _ HZ1.out.symm]
      rfl
    · obtain rfl : k = 10 := by omega
      clear hlt hk
      go_wp2_with fail
      go_loopw [3] (fun c wr => ∃ k : Nat, k ≤ 26 ∧ c = .int .i32 (97 + k) ∧ Hid (wr = W1.alloc (.cells (ruleT2 Tryd.zeroCells56 k) 56))) (fun c _ => 123 - (intOf c).toNat)
      case atStart => exact ⟨0, by omega, rfl, HW⟩
      case round =>
        obtain ⟨k, hk, rfl, HV⟩ := hrel
        by_cases hlt : k < 26
        · have hs1 : 97 + k < (ruleT2 Tryd.zeroCells56 k).size := by rw [ruleT2_size ruleZ_size]; omega
          have hc : wr.cell? ⟨w.heap.size + 1, 97 + k, none⟩ = some (ruleT2 Tryd.zeroCells56 k)[97 + k] := by
            rw [HV.out, cell_al_eq _ _ _ _ _ HZ1.out.symm, Array.getElem?_eq_getElem hs1]
          have hf : wr.frozen? ⟨w.heap.size + 1, 97 + k, none⟩ = false := by
            rw [HV.out]
            exact frozen_of_row _ _ _ (ruleT2 Tryd.zeroCells56 k) 56 (by rw [← HZ1.out]; exact heap_alloc_last W1 _)
          generalize (ruleT2 Tryd.zeroCells56 k)[97 + k] = u at hc
          clear hs1
          go_wp2_with fail
          refine ⟨⟨k + 1, by omega, by go_num, ?_⟩, by simp [intOf]; omega⟩
          show _ = _
          rw [HV.out, set_al _ _ _ _ _ _ HZ1.out.symm]
          rfl
        · obtain rfl : k = 26 := by omega
          clear hlt hk
          have hb1 : wr.heap[w.heap.size + 1]? = some (.cells (ruleT2 Tryd.zeroCells56 26) 56 (0, 0)) := by
            rw [HV.out, ← HZ1.out]; exact heap_alloc_last W1 _
          have hb0 : wr.heap[w.heap.size]? = some (.cells Tryd.zeroCells56 56 (0, 0)) := by
            rw [HV.out, Lib.alloc_old _ _ _ (by rw [HZ1.out]; omega), HW1.out]; exact heap_alloc_last w _
          have HB1 := Lib.hid hb1
          have HB0 := Lib.hid hb0
          clear hb1 hb0
          go_wp2_with (first | (with_reducible refine wpList_load_row rfl 56 (.tmp 1) rfl (w.heap.size + 1) ?d1 56 (ruleT2 Tryd.zeroCells56 26) (0, 0) _ HB1.out Tryd.underlying56 rfl ?d2 ?_) | (with_reducible refine wpList_store_row rfl 56 (.tmp 0) (.tmp 29) rfl w.heap.size (ruleT2 Tryd.zeroCells56 26) ?c1 ?c2 56 Tryd.zeroCells56 HB0.out ?c4 ?c5 ?c6 ?_))
          case d1 => rfl
          case d2 => rw [ruleT2_size ruleZ_size]; exact infoRules
          case c4 => rw [ruleT2_size ruleZ_size]; exact infoRules
          case c5 => rw [ruleT2_size ruleZ_size]; exact ruleZ_size
          case c6 => exact ruleT_one
          refine bodyPost_ret (v := .agg (ruleT2 Tryd.zeroCells56 26)) (results_cell_row Tryd.results22 _ _ w.heap.size 56 _ (0, 0) _ rfl (setRow_heap _ _ _ _ _ _ HB0.out) Tryd.underlying56 rfl (by rw [ruleT2_size ruleZ_size]; exact infoRules)) rfl ⟨rfl, bel_setRow ?_ _ (Nat.le_refl _)⟩
          rw [HV.out, HW1.out]
          exact bel_alloc (bel_alloc (Below.refl _ _) _) _
end Go.Proofs.YtkflnbmbkilicaaDoor
