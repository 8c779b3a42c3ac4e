/-
  legatelaw10.awake: the examples.
-/
import Derived.Test.YtngebebhaehmnaaGreatDoorCanonLaw
import Derived.Test.YtngebebhaehmnaaGreatDoorValA
import Derived.Deep.RegionHeld3
namespace Go.Proofs.YtngebebhaehmnaaGreatDoor
open Go.RowKit
def exObj : JV := .mk 5 0 ⟨#[]⟩ [⟨#[97]⟩, ⟨#[98]⟩] [.mk 4 0 ⟨#[]⟩ [] [.mk 2 1 ⟨#[]⟩ [] [], .mk 1 1 ⟨#[]⟩ [] []], .mk 3 0 ⟨#[120, 34, 121]⟩ [] []]
theorem exObj_ok : (mayB exObj && decide (formV exObj = (⟨#[123, 34, 97, 34, 58, 91, 49, 44, 116, 114, 117, 101, 93, 44, 34, 98, 34, 58, 34, 120, 92, 34, 121, 34, 125]⟩ : ByteArray).data.toList)) = true := by kernel_rfl
theorem exLine_ok : (mayB (JV.text ⟨#[10]⟩) && decide (formV (JV.text ⟨#[10]⟩) = (⟨#[34, 10, 34]⟩ : ByteArray).data.toList)) = true := by kernel_rfl
theorem exEmpty_ok : (mayB (.mk 5 0 ⟨#[]⟩ [] []) && decide (formV (.mk 5 0 ⟨#[]⟩ [] []) = (⟨#[123, 125]⟩ : ByteArray).data.toList)) = true := by kernel_rfl
set_option maxRecDepth 100000 in
set_option maxHeartbeats 4000000 in
theorem canonAwake_any (w : World) (henv : TabEnv w) :
    Calls Tryz.prog 23 #[] w fun e w' => e = .returned (.bool true) ∧ Below w.heap.size w w' := by
  obtain ⟨w1, hw1⟩ : ∃ x, x = (w.alloc (.cells #[.int .u8 2, .int .i64 1, .string ⟨#[]⟩, .slice none 0 0, .slice none 0 0] 26)).alloc (.cells #[.int .u8 1, .int .i64 1, .string ⟨#[]⟩, .slice none 0 0, .slice none 0 0] 26) := ⟨_, rfl⟩
  have hb1 : Below w.heap.size w w1 := by rw [hw1]; exact ((Below.refl _ _).alloc (Nat.le_refl _) _).alloc (by simp) _
  have s1 : w1.heap.size = w.heap.size + 2 := by rw [hw1]; simp
  have p1 : w1.heap[w.heap.size]? = some (.cells #[.int .u8 2, .int .i64 1, .string ⟨#[]⟩, .slice none 0 0, .slice none 0 0] 26 (0, 0)) := by
    rw [hw1]; show ((w.heap.push _).push _)[w.heap.size]? = _; rw [Array.getElem?_push, if_neg (by simp), Array.getElem?_push, if_pos rfl]
  have p2 : w1.heap[w.heap.size + 1]? = some (.cells #[.int .u8 1, .int .i64 1, .string ⟨#[]⟩, .slice none 0 0, .slice none 0 0] 26 (0, 0)) := by
    rw [hw1]; exact heap_two _ _ _
  have HW := Lib.hid hw1
  clear hw1
  have hm1 : mayB (.mk 1 2 ⟨#[]⟩ [] []) = false := by kernel_rfl
  have hE := Encode_any (.mk 1 2 ⟨#[]⟩ [] []) _ w1 (valAt_leaf w1 1 2 ⟨#[]⟩ (by decide) (by decide) (by decide) (by decide) (by decide)) (henv.below hb1)
  rw [hm1] at hE
  simp only [Bool.false_eq_true, if_false] at hE
  go_enter Tryz.func23, Tryz.ntmps23
  go_wp2_with fail
  rw [← HW.out]
  refine hE.mono ?_
  rintro e w2 ⟨rfl, hb2⟩
  have g1 := hb2.block w.heap.size (by omega)
  rw [p1] at g1
  have g2 := hb2.block (w.heap.size + 1) (by omega)
  rw [p2] at g2
  have s2 := hb2.size
  have c0 : ∀ k, w2.cell? ⟨w.heap.size, k, none⟩ = _ := fun k => Lib.cell_of_heap g1 k
  have d0 : ∀ k, w2.cell? ⟨w.heap.size + 1, k, none⟩ = _ := fun k => Lib.cell_of_heap g2 k
  have ca := c0 0
  have cb := c0 1
  have cc := c0 2
  have cd := c0 3
  have ce := c0 4
  have da := d0 0
  have db := d0 1
  have dc := d0 2
  have dd := d0 3
  have de := d0 4
  simp at ca cb cc cd ce da db dc dd de
  have henv2 := Lib.hid ((henv.below hb1).below hb2)
  have hB2 := Lib.hid (below_more hb1 hb2)
  clear hE c0 d0 g1 g2 p1 p2 HW hb1 s1 hb2 s2 hm1 henv
  have hbR : Below w2.heap.size w2 w2 := Below.refl _ _
  go_wp2_with fail
  go_region_held3 (fun w' => Below w2.heap.size w2 w' ∧ w'.cell? ⟨w.heap.size, 0, none⟩ = some (.int .u8 2) ∧ w'.cell? ⟨w.heap.size, 1, none⟩ = some (.int .i64 1) ∧ w'.cell? ⟨w.heap.size, 2, none⟩ = some (.string ⟨#[]⟩) ∧ w'.cell? ⟨w.heap.size, 3, none⟩ = some (.slice none 0 0) ∧ w'.cell? ⟨w.heap.size, 4, none⟩ = some (.slice none 0 0) ∧ w'.cell? ⟨w.heap.size + 1, 0, none⟩ = some (.int .u8 1) ∧ w'.cell? ⟨w.heap.size + 1, 1, none⟩ = some (.int .i64 1) ∧ w'.cell? ⟨w.heap.size + 1, 2, none⟩ = some (.string ⟨#[]⟩) ∧ w'.cell? ⟨w.heap.size + 1, 3, none⟩ = some (.slice none 0 0) ∧ w'.cell? ⟨w.heap.size + 1, 4, none⟩ = some (.slice none 0 0))
    ((refine (fun h => ⟨h, cell_keep h ca, cell_keep h cb, cell_keep h cc, cell_keep h cd, cell_keep h ce, cell_keep h da, cell_keep h db, cell_keep h dc, cell_keep h dd, cell_keep h de⟩ : Below w2.heap.size w2 _ → _) ?_; go_split_ands; (repeat (first | assumption | refine bel_drew ?_ | refine bel_alloc ?_ _ | refine below_more ?_ (by assumption)))))
    (first
      | (go_at_call 43; refine (lawText_any _ _).mono ?_; rintro e w3 ⟨rfl, hb3⟩; have s3 := hb3.size; (try simp only [size_al, size_dr] at s3); have ⟨q3, _⟩ := bcell hb3)
      | (go_at_call 42; (with_reducible refine (lawIs_any (JV.text ⟨#[10]⟩) _ _ _ (valAt_text _ _ (by decide)) ?_ true (Lib.hid exLine_ok)).mono ?_)
         · exact henv2.out.below (by (repeat (first | assumption | refine bel_drew ?_ | refine bel_alloc ?_ _ | refine below_more ?_ (by assumption))))
         rintro e w6 ⟨rfl, hb6⟩)
      | (go_at_call 42; (with_reducible refine (lawIs_any (.mk 5 0 ⟨#[]⟩ [] []) _ _ _ (valAt_leaf _ _ _ _ (by decide) (by decide) (by decide) (by decide) (by decide)) ?_ true (Lib.hid exEmpty_ok)).mono ?_)
         · exact henv2.out.below (by (repeat (first | assumption | refine bel_drew ?_ | refine bel_alloc ?_ _ | refine below_more ?_ (by assumption))))
         rintro e w7 ⟨rfl, hb7⟩)
      | (go_at_call 42; (with_reducible refine (lawIs_any exObj _ _ _ ?_ ?_ true (Lib.hid exObj_ok)).mono ?_)
         · refine' valAt_lit (by rfl) (strsAt_len (by rfl) ⟨?_, ?_, trivial⟩) (itemsAt_len (by rfl) (rowAt_put ?_ ?_ ?_ ?_ ?_ (valAt_lit (by rfl) (strsAt_nil _) (itemsAt_len (by rfl) (rowAt_put ?_ ?_ ?_ ?_ ?_ (valAt_lit (by rfl) (strsAt_nil _) (itemsAt_nil _)) (rowAt_put ?_ ?_ ?_ ?_ ?_ (valAt_lit (by rfl) (strsAt_nil _) (itemsAt_nil _)) (rowAt_nil _ _ _))))) (rowAt_put ?_ ?_ ?_ ?_ ?_ (valAt_lit (by rfl) (strsAt_nil _) (itemsAt_nil _)) (rowAt_nil _ _ _))))
           iterate 2 (all_goals (try (simp (disch := first | omega | (simp only [size_al, size_dr] <;> omega) | fail) only [cell_dr, cell_al_eq, cell_al_lt, q3]; rfl)))
         · exact henv2.out.below (by (repeat (first | assumption | refine bel_drew ?_ | refine bel_alloc ?_ _ | refine below_more ?_ (by assumption))))
         rintro e w4 ⟨rfl, hb4⟩))
  all_goals (go_wp2_with fail; go_ret; exact ⟨rfl, below_more hB2.out (by go_split_ands; assumption)⟩)
end Go.Proofs.YtngebebhaehmnaaGreatDoor
