/-
  legatelaw10: text, is.
-/
import Derived.Test.YtngebebhaehmnaaGreatDoorCanonEncB
namespace Go.Proofs.YtngebebhaehmnaaGreatDoor
open Go.RowKit
/-- A text's value. -/
def JV.text (s : ByteArray) : JV := .mk 3 0 s [] []
theorem valAt_text (w : World) (s : ByteArray) (hs : s.size ≤ maxLen) : ValAt w (JV.text s) (.agg #[.int .u8 3, .int .i64 0, .string s, .slice none 0 0, .slice none 0 0]) := by
  refine valAt_iff.2 ⟨_, _, rfl, by simp [JV.text, JV.k], by simp [JV.text, JV.k], by simp [JV.text, JV.n], by simp [JV.text, JV.n], hs, ⟨by simp [JV.text, JV.names], by simp [JV.text, JV.names], Or.inl ⟨rfl, _, _, rfl⟩⟩, by simp [JV.text, JV.items], Or.inl ⟨rfl, _, _, rfl⟩⟩
set_option maxRecDepth 100000 in
theorem lawText_any (s : ByteArray) (w : World) :
    Calls Tryz.prog 43 #[.string s] w fun e w' => e = .returned (.agg #[.int .u8 3, .int .i64 0, .string s, .slice none 0 0, .slice none 0 0]) ∧ Below w.heap.size w w' := by
  go_enter Tryz.func43, Tryz.ntmps43
  go_wp2_with fail
  refine bodyPost_ret (results_cell_row rfl _ _ w.heap.size _ _ _ _ rfl (heap_new w _) rfl rfl rfl) rfl ?_
  exact ⟨rfl, (Below.refl _ _).alloc (Nat.le_refl _) _⟩
set_option maxRecDepth 100000 in
set_option maxHeartbeats 1000000 in
theorem lawIs_any (V : JV) (v : Value) (want : ByteArray) (w : World) (h : ValAt w V v) (henv : TabEnv w) (r : Bool) (hr : Hid ((mayB V && decide (formV V = want.data.toList)) = r)) :
    Calls Tryz.prog 42 #[v, .string want] w fun e w' => e = .returned (.bool r) ∧ Below w.heap.size w w' := by
  obtain ⟨vn, vi, hv, k0, k1, n0, n1, ht, hns, his⟩ := valAt_iff.1 h
  obtain ⟨ai, icap, rfl, -, -⟩ := his.parts
  obtain ⟨an, ncap, rfl, -, -, -⟩ := hns.parts
  subst hv
  obtain ⟨box, hbox⟩ : ∃ o, o = Obj.cells #[.int .u8 V.k, .int .i64 V.n, .string V.t, .slice an V.names.length ncap, .slice ai V.items.length icap] 26 := ⟨_, rfl⟩
  have hb0 : Below w.heap.size w (w.alloc box) := (Below.refl _ _).alloc (Nat.le_refl _) box
  have h0 := h.keep hb0
  have hs0 : (w.alloc box).heap.size = w.heap.size + 1 := by simp
  have henv0 := henv.below hb0
  subst hbox
  obtain ⟨s, e, hs⟩ : ∃ (s : ByteArray) (e : Int), Hid (s = ⟨(if mayB V then formV V else []).toArray⟩ ∧ e = (if mayB V then 0 else 3)) := ⟨_, _, rfl, rfl⟩
  have hE := Encode_any V _ _ h0 henv0
  rw [← hs.out.1, ← hs.out.2] at hE
  obtain ⟨c, hc⟩ : ∃ c, (s.toList == want.toList) = c := ⟨_, rfl⟩
  obtain ⟨z, hz⟩ : ∃ z, (e == 0) = z := ⟨_, rfl⟩
  have hrr : r = (c && z) := by
    rw [← hr.out, ← hc, ← hz, hs.out.1, hs.out.2]
    cases mayB V with
    | true =>
      simp only [Bool.true_and, if_true]
      rw [show ((0 : Int) == 0) = true from rfl, Bool.and_true]
      by_cases hf : formV V = want.data.toList
      · rw [decide_eq_true hf]
        symm
        rw [beq_iff_eq]
        rw [toList_data, toList_data]
        simpa using hf
      · rw [decide_eq_false hf]
        symm
        rw [beq_eq_false_iff_ne]
        intro hh
        rw [toList_data, toList_data] at hh
        exact hf (by simpa using hh)
    | false => simp
  clear hs hr
  cases c with
  | false =>
    go_enter Tryz.func42, Tryz.ntmps42
    go_wp2_with fail
    refine hE.mono ?_
    rintro e w1 ⟨rfl, hb1⟩
    go_wp2_with fail
    go_ret
    exact ⟨by rw [hrr]; rfl, hb0.trans (hb1.mono (by omega))⟩
  | true =>
    go_enter Tryz.func42, Tryz.ntmps42
    go_wp2_with fail
    refine hE.mono ?_
    rintro e w1 ⟨rfl, hb1⟩
    go_wp2_with fail
    go_ret
    exact ⟨by rw [hrr]; simp, hb0.trans (hb1.mono (by omega))⟩
/-- Encode where it is known whether the value may be. -/
theorem Encode_yes (V : JV) (v : Value) (w : World) (h : ValAt w V v) (henv : TabEnv w) (hm : Hid (mayB V = true)) (s : ByteArray) (hs : Hid (s = (⟨(formV V).toArray⟩ : ByteArray))) :
    Calls Tryz.prog 24 #[v] w fun e w' => e = .returned (.tuple #[.string s, .int .i64 0]) ∧ Below w.heap.size w w' := by
  have hE := Encode_any V v w h henv
  rw [hm.out] at hE
  rw [hs.out]
  exact hE
theorem Encode_no (V : JV) (v : Value) (w : World) (h : ValAt w V v) (henv : TabEnv w) (hm : Hid (mayB V = false)) :
    Calls Tryz.prog 24 #[v] w fun e w' => e = .returned (.tuple #[.string ⟨#[]⟩, .int .i64 3]) ∧ Below w.heap.size w w' := by
  have hE := Encode_any V v w h henv
  rw [hm.out] at hE
  exact hE
theorem May_is (V : JV) (v : Value) (w : World) (h : ValAt w V v) (m : Bool) (hm : Hid (mayB V = m)) :
    Calls Tryz.prog 44 #[v] w fun e w' => e = .returned (.bool m) ∧ Below w.heap.size w w' := by
  have hE := May_any V v w h
  rw [hm.out] at hE
  exact hE
end Go.Proofs.YtngebebhaehmnaaGreatDoor
