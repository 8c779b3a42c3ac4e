/-
  The walk of the law CanonNames: the examples, one by one.
-/
import Derived.Test.YtjekdhahbkofbaaDoorCanonAwake
namespace Go.Proofs.YtjekdhahbkofbaaDoor
open Go.RowKit

theorem text_lit (w : World) (s : ByteArray) (h : decide (s.size ≤ 1000000) = true) : ValAt w (JV.text s) (.agg #[.int .u8 3, .int .i64 0, .string s, .slice none 0 0, .slice none 0 0]) :=
  valAt_text w s (by have := of_decide_eq_true h; unfold maxLen; omega)
theorem leaf_lit (w : World) (k n : Int) (h : (decide (0 ≤ k) && decide (k ≤ 255) && decide (-9223372036854775808 ≤ n) && decide (n ≤ 9223372036854775807)) = true) : ValAt w (.mk k n ⟨#[]⟩ [] []) (.agg #[.int .u8 k, .int .i64 n, .string ⟨#[]⟩, .slice none 0 0, .slice none 0 0]) :=
  valAt_lit (by rw [h]; rfl) (strsAt_nil w) (itemsAt_nil w)
theorem formIs (V : JV) (l : List UInt8) (h : (mayB V && decide (formV V = l)) = true) : Hid ((mayB V && decide (formV V = (⟨l.toArray⟩ : ByteArray).data.toList)) = true) := h
theorem nm0 : (mayB (.mk 1 0 ⟨#[]⟩ [] []) && decide (formV (.mk 1 0 ⟨#[]⟩ [] []) = (⟨#[102, 97, 108, 115, 101]⟩ : ByteArray).data.toList)) = true := by kernel_rfl
theorem nm1 : (mayB (.mk 2 (-9223372036854775808) ⟨#[]⟩ [] []) && decide (formV (.mk 2 (-9223372036854775808) ⟨#[]⟩ [] []) = (⟨#[45, 57, 50, 50, 51, 51, 55, 50, 48, 51, 54, 56, 53, 52, 55, 55, 53, 56, 48, 56]⟩ : ByteArray).data.toList)) = true := by kernel_rfl
theorem nm2 : (mayB (.mk 2 0 ⟨#[]⟩ [] []) && decide (formV (.mk 2 0 ⟨#[]⟩ [] []) = (⟨#[48]⟩ : ByteArray).data.toList)) = true := by kernel_rfl
theorem nm3 : (mayB (JV.text ⟨#[]⟩) && decide (formV (JV.text ⟨#[]⟩) = (⟨#[34, 34]⟩ : ByteArray).data.toList)) = true := by kernel_rfl
theorem nm4 : (mayB (JV.text ⟨#[92, 47, 0, 31, 127, 195, 169]⟩) && decide (formV (JV.text ⟨#[92, 47, 0, 31, 127, 195, 169]⟩) = (⟨#[34, 92, 92, 47, 0, 31, 127, 195, 169, 34]⟩ : ByteArray).data.toList)) = true := by kernel_rfl
theorem nm5 : (mayB (.mk 4 0 ⟨#[]⟩ [] []) && decide (formV (.mk 4 0 ⟨#[]⟩ [] []) = (⟨#[91, 93]⟩ : ByteArray).data.toList)) = true := by kernel_rfl
theorem nm6 : (mayB (.mk 4 0 ⟨#[]⟩ [] [.mk 4 0 ⟨#[]⟩ [] [], .mk 5 0 ⟨#[]⟩ [] []]) && decide (formV (.mk 4 0 ⟨#[]⟩ [] [.mk 4 0 ⟨#[]⟩ [] [], .mk 5 0 ⟨#[]⟩ [] []]) = (⟨#[91, 91, 93, 44, 123, 125, 93]⟩ : ByteArray).data.toList)) = true := by kernel_rfl
theorem nm7 : (mayB (.mk 5 0 ⟨#[]⟩ [⟨#[34]⟩] [JV.text ⟨#[]⟩]) && decide (formV (.mk 5 0 ⟨#[]⟩ [⟨#[34]⟩] [JV.text ⟨#[]⟩]) = (⟨#[123, 34, 92, 34, 34, 58, 34, 34, 125]⟩ : ByteArray).data.toList)) = true := by kernel_rfl
def badL : List JV := [.mk 0 0 ⟨#[]⟩ [] [], .mk 9 0 ⟨#[]⟩ [] [], JV.text ⟨#[255]⟩, .mk 5 0 ⟨#[]⟩ [⟨#[98]⟩, ⟨#[97]⟩] [JV.text ⟨#[]⟩, JV.text ⟨#[]⟩], .mk 5 0 ⟨#[]⟩ [⟨#[97]⟩] [], .mk 4 0 ⟨#[]⟩ [] [.mk 0 0 ⟨#[]⟩ [] []]]
theorem bad_all : (badL.all fun x => !mayB x) = true := by kernel_rfl
theorem bad_no {j : Nat} {x : JV} (h : badL[j]? = some x) : mayB x = false := by
  have := List.all_eq_true.1 bad_all x (List.mem_of_getElem? h)
  simpa using this
set_option maxRecDepth 100000 in
set_option maxHeartbeats 4000000 in
theorem canonNames_walk (w : World) (henv : TabEnv w) :
    Calls Tryd.prog 4 #[] w fun e w' => e = .returned (.bool true) ∧ Below w.heap.size w w' := by
  have hB0 : Below w.heap.size w w := Below.refl _ _
  have henv0 := Lib.hid henv
  clear henv
  go_enter Tryd.func4, Tryd.ntmps4
  go_wp2_with fail
  refine (canonAwake_any _ henv0.out).mono ?_
  rintro e w1 ⟨rfl, hb1⟩
  have hB1 := below_more hB0 hb1
  have henv1 := Lib.hid (henv0.out.below hB1)
  go_wp2_with fail
  refine (lawIs_any (.mk 1 0 ⟨#[]⟩ [] []) _ _ _ (leaf_lit _ _ _ rfl) henv1.out true (Lib.hid nm0)).mono ?_
  rintro e w2 ⟨rfl, hb2⟩
  have hB2 := below_more hB1 hb2
  have henv2 := Lib.hid (henv0.out.below hB2)
  go_wp2_with fail
  refine (lawIs_any (.mk 2 (-9223372036854775808) ⟨#[]⟩ [] []) _ _ _ (leaf_lit _ _ _ rfl) henv2.out true (Lib.hid nm1)).mono ?_
  rintro e w3 ⟨rfl, hb3⟩
  have hB3 := below_more hB2 hb3
  have henv3 := Lib.hid (henv0.out.below hB3)
  go_wp2_with fail
  refine (lawIs_any (.mk 2 0 ⟨#[]⟩ [] []) _ _ _ (leaf_lit _ _ _ rfl) henv3.out true (Lib.hid nm2)).mono ?_
  rintro e w4 ⟨rfl, hb4⟩
  have hB4 := below_more hB3 hb4
  have henv4 := Lib.hid (henv0.out.below hB4)
  go_wp2_with fail
  refine (lawText_any _ _).mono ?_
  rintro e w5 ⟨rfl, hb5⟩
  have hB5 := below_more hB4 hb5
  have henv5 := Lib.hid (henv0.out.below hB5)
  go_wp2_with fail
  refine (lawIs_any (JV.text ⟨#[]⟩) _ _ _ (text_lit _ _ rfl) henv5.out true (Lib.hid nm3)).mono ?_
  rintro e w6 ⟨rfl, hb6⟩
  have hB6 := below_more hB5 hb6
  have henv6 := Lib.hid (henv0.out.below hB6)
  go_wp2_with fail
  refine (lawText_any _ _).mono ?_
  rintro e w7 ⟨rfl, hb7⟩
  have hB7 := below_more hB6 hb7
  have henv7 := Lib.hid (henv0.out.below hB7)
  go_wp2_with fail
  refine (lawIs_any (JV.text ⟨#[92, 47, 0, 31, 127, 195, 169]⟩) _ _ _ (text_lit _ _ rfl) henv7.out true (Lib.hid nm4)).mono ?_
  rintro e w8 ⟨rfl, hb8⟩
  have hB8 := below_more hB7 hb8
  have henv8 := Lib.hid (henv0.out.below hB8)
  go_wp2_with fail
  refine (lawIs_any (.mk 4 0 ⟨#[]⟩ [] []) _ _ _ (leaf_lit _ _ _ rfl) henv8.out true (Lib.hid nm5)).mono ?_
  rintro e w9 ⟨rfl, hb9⟩
  have hB9 := below_more hB8 hb9
  have henv9 := Lib.hid (henv0.out.below hB9)
  go_wp2_with fail
  refine (lawIs_any (.mk 4 0 ⟨#[]⟩ [] [.mk 4 0 ⟨#[]⟩ [] [], .mk 5 0 ⟨#[]⟩ [] []]) _ _ _ ?_ (henv0.out.below (bel_alloc hB9 _)) true (Lib.hid nm6)).mono ?_
  · refine' valAt_lit (by rfl) (strsAt_nil _) (itemsAt_len (by rfl) (rowAt_put ?_ ?_ ?_ ?_ ?_ (leaf_lit _ _ _ rfl) (rowAt_put ?_ ?_ ?_ ?_ ?_ (leaf_lit _ _ _ rfl) (rowAt_nil _ _ _))))
    all_goals (simp (disch := first | omega | (simp only [size_al] <;> omega) | fail) only [cell_al_eq]; rfl)
  rintro e w10 ⟨rfl, hb10⟩
  have hB10 := below_more (bel_alloc hB9 _) hb10
  have henv10 := Lib.hid (henv0.out.below hB10)
  go_wp2_with fail
  refine (lawText_any _ _).mono ?_
  rintro e w11 ⟨rfl, hb11⟩
  have q11 := (bcell hb11).1
  have s11 := hb11.size
  simp only [size_al] at s11
  have hB11 := below_more (bel_alloc hB10 _) hb11
  have henv11 := Lib.hid (henv0.out.below hB11)
  go_wp2_with fail
  refine (lawIs_any (.mk 5 0 ⟨#[]⟩ [⟨#[34]⟩] [JV.text ⟨#[]⟩]) _ _ _ ?_ (henv0.out.below (bel_alloc hB11 _)) true (Lib.hid nm7)).mono ?_
  · refine' valAt_lit (by rfl) (strsAt_len (by rfl) ⟨?_, trivial⟩) (itemsAt_len (by rfl) (rowAt_put ?_ ?_ ?_ ?_ ?_ (text_lit _ _ rfl) (rowAt_nil _ _ _)))
    all_goals (simp (disch := first | omega | (simp only [size_al] <;> omega) | fail) only [cell_al_eq, cell_al_lt, q11]; rfl)
  rintro e w12 ⟨rfl, hb12⟩
  have hB12 := below_more (bel_alloc hB11 _) hb12
  have henv12 := Lib.hid (henv0.out.below hB12)
  go_wp2_with fail
  refine (lawText_any _ _).mono ?_
  rintro e w13 ⟨rfl, hb13⟩
  have hB13 := below_more hB12 hb13
  have henv13 := Lib.hid (henv0.out.below hB13)
  go_wp2_with fail
  refine (lawText_any _ _).mono ?_
  rintro e w14 ⟨rfl, hb14⟩
  have q14 := (bcell hb14).1
  have s14 := hb14.size
  simp only [size_al] at s14
  have hB14 := below_more (bel_alloc hB13 _) hb14
  have henv14 := Lib.hid (henv0.out.below hB14)
  go_wp2_with fail
  refine (lawText_any _ _).mono ?_
  rintro e w15 ⟨rfl, hb15⟩
  have q15 := (bcell hb15).1
  have s15 := hb15.size
  have hB15 := below_more hB14 hb15
  have henv15 := Lib.hid (henv0.out.below hB15)
  go_wp2_with fail
  have hlen : badL.length = 6 := rfl
  have HLEN := Lib.hid hlen
  clear hlen
  go_loopw [68] (fun i wr => ∃ j : Nat, j ≤ 6 ∧ i = .int .i64 j ∧ ItemsAt wr (.slice (some ⟨w15.heap.size + 1 + 1 + 1, 0, none⟩) 6 6) badL ∧ Below w.heap.size w wr) (fun i _ => 6 - (intOf i).toNat)
  case atStart =>
    refine ⟨0, by omega, rfl, ?_, bel_alloc (bel_alloc (bel_alloc (bel_alloc hB15 _) _) _) _⟩
    refine' itemsAt_len (l := badL) (by rfl) (rowAt_put ?_ ?_ ?_ ?_ ?_ (leaf_lit _ _ _ rfl) (rowAt_put ?_ ?_ ?_ ?_ ?_ (leaf_lit _ _ _ rfl) (rowAt_put ?_ ?_ ?_ ?_ ?_ (text_lit _ _ rfl) (rowAt_put ?_ ?_ ?_ ?_ ?_ (valAt_lit (by rfl) (strsAt_len (by rfl) ⟨?_, ?_, trivial⟩) (itemsAt_len (by rfl) (rowAt_put ?_ ?_ ?_ ?_ ?_ (text_lit _ _ rfl) (rowAt_put ?_ ?_ ?_ ?_ ?_ (text_lit _ _ rfl) (rowAt_nil _ _ _))))) (rowAt_put ?_ ?_ ?_ ?_ ?_ (valAt_lit (by rfl) (strsAt_len (by rfl) ⟨?_, trivial⟩) (itemsAt_nil _)) (rowAt_put ?_ ?_ ?_ ?_ ?_ (valAt_lit (by rfl) (strsAt_nil _) (itemsAt_len (by rfl) (rowAt_put ?_ ?_ ?_ ?_ ?_ (leaf_lit _ _ _ rfl) (rowAt_nil _ _ _)))) (rowAt_nil _ _ _)))))))
    iterate 2 (all_goals (try (simp (disch := first | omega | (simp only [size_al] <;> omega) | fail) only [cell_al_eq, cell_al_lt, q15, q14]; rfl)))
  case round =>
    obtain ⟨j, hj, rfl, hI, hBr⟩ := hrel
    by_cases hjl : j < 6
    · obtain ⟨x, hx⟩ : ∃ x, badL[j]? = some x := ⟨_, List.getElem?_eq_getElem (by rw [HLEN.out]; exact hjl)⟩
      have hmx := Lib.hid (bad_no hx)
      obtain ⟨_, _, e', -, hpart⟩ := hI.parts
      simp only [Value.slice.injEq] at e'
      obtain ⟨rfl, -, rfl⟩ := e'
      obtain ⟨xb, xo, xn, xi, hb, x0, x1, x2, x3, x4, q⟩ := hpart j x hx
      simp only [Option.some.injEq, Addr.mk.injEq, and_true] at hb
      obtain ⟨rfl, rfl⟩ := hb
      simp only [Nat.zero_add] at x0 x1 x2 x3 x4
      have hvx := valAt_iff.2 ⟨xn, xi, rfl, q⟩
      obtain ⟨-, -, -, -, -, q1, q2⟩ := q
      obtain ⟨xi1, xi2, rfl, -, -⟩ := q2.parts
      obtain ⟨xn1, xn2, rfl, -, -, -⟩ := q1.parts
      have hvx := Lib.hid hvx
      have HI := Lib.hid hI
      have hj0 : (0 : Int) ≤ (j : Int) := by omega
      have hj1 : (j : Int) < 6 := by omega
      have hB1' := fun o => bel_alloc hBr o
      have hr1 := fun o => bel_alloc (Below.refl wr.heap.size wr) o
      clear hpart hx q1 q2 hI
      go_wp2_with fail
      refine (Encode_no x _ _ (hvx.out.keep (hr1 _)) (henv0.out.below (hB1' _)) hmx).mono ?_
      rintro e w30 ⟨rfl, hb30⟩
      have hI30 := (HI.out.keep (hr1 _)).keep hb30
      have hB30 := below_more (hB1' _) hb30
      clear hB1' hr1
      go_wp2_with fail
      exact ⟨⟨j + 1, by omega, by go_num, hI30, hB30⟩, by simp [intOf]; omega⟩
    · go_wp2_with fail
      go_ret
      exact ⟨rfl, hBr⟩
end Go.Proofs.YtjekdhahbkofbaaDoor
