/-
  canon.Encode at any value: the walk of the whole.
  legatelaw10: text, is.
-/
import Derived.Test.YtmggmpigpiaagaaGreatDoorCanonEnc
import Derived.Test.YtmggmpigpiaagaaGreatDoorShelfB
import Derived.Laws.EntriesVeiled
namespace Go.Proofs.YtmggmpigpiaagaaGreatDoor
section
set_option maxRecDepth 100000
open Go.RowKit
set_option maxHeartbeats 2000000 in
theorem Encode_any (V : JV) (v : Value) (w : World) (h : ValAt w V v) (henv : TabEnv w) :
   Calls Tryz.prog 25 #[v] w fun e w' => e = .returned (.tuple #[.string ⟨(if mayB V then formV V else []).toArray⟩, .int .i64 (if mayB V then 0 else 3)]) ∧ Below w.heap.size w w' := by
 obtain ⟨m, hm⟩ : ∃ m, mayB V = m := ⟨_, rfl⟩
 obtain ⟨vn, vi, hv, k0, k1, n0, n1, ht, hns, his⟩ := valAt_iff.1 h
 obtain ⟨ai, icap, rfl, -, -⟩ := his.parts
 obtain ⟨an, ncap, rfl, -, -, -⟩ := hns.parts
 subst hv
 obtain ⟨box, hbox⟩ : ∃ o, o = Obj.cells #[.int .u8 V.k, .int .i64 V.n, .string V.t, .slice an V.names.length ncap, .slice ai V.items.length icap] 26 := ⟨_, rfl⟩
 have hb0 : Below w.heap.size w (w.alloc box) := (Below.refl _ _).alloc (Nat.le_refl _) box
 have h0 := h.keep hb0
 have hbx := heap_new w box
 have hs0 : (w.alloc box).heap.size = w.heap.size + 1 := by simp
 subst hbox
 cases m with
 | false =>
   rw [hm]
   have HM := Lib.hid hm
   clear hm
   go_enter Tryz.func25, Tryz.ntmps25
   go_wp2_with fail
   refine (May_any V _ _ h0).mono ?_
   rintro e w1 ⟨rfl, hb1⟩
   rw [HM.out]
   go_wp2_with fail
   go_ret2
   exact ⟨rfl, hb0.trans (hb1.mono (by omega))⟩
 | true =>
   rw [hm]
   have HM := Lib.hid hm
   clear hm
   go_enter Tryz.func25, Tryz.ntmps25
   go_wp2_with fail
   refine (May_any V _ _ h0).mono ?_
   rintro e w1 ⟨rfl, hb1⟩
   rw [HM.out]
   have hbx1 := hb1.block w.heap.size (by omega)
   rw [hbx] at hbx1
   have hsz1 := hb1.size
   obtain ⟨w5, hw5⟩ : ∃ x, x = ((w1.alloc (.cells #[.pointer none, .slice none 0 0] 89)).alloc (.cells #[.func (.func 49) #[] #[.pointer (some ⟨w1.heap.size, 0, none⟩)]] 95)).alloc (.cells #[.func (.func 52) #[] #[.pointer (some ⟨w1.heap.size, 0, none⟩), .pointer (some ⟨w1.heap.size + 1, 0, none⟩), .pointer (some ⟨w1.heap.size + 1 + 1, 0, none⟩)]] 96) := ⟨_, rfl⟩
   have hB5 : Below w1.heap.size w1 w5 := by
     rw [hw5]
     exact (((Below.refl _ _).alloc (Nat.le_refl _) _).alloc (by simp) _).alloc (by simp; omega) _
   have hbx5 := hB5.block w.heap.size (by omega)
   rw [hbx1] at hbx5
   have hc : ∀ k, w5.cell? ⟨w.heap.size, k, none⟩ = _ := fun k => Lib.cell_of_heap hbx5 k
   have q0 : w5.cell? ⟨w.heap.size, 0, none⟩ = some (.int .u8 V.k) := by rw [hc]; rfl
   have q1 : w5.cell? ⟨w.heap.size, 1, none⟩ = some (.int .i64 V.n) := by rw [hc]; rfl
   have q2 : w5.cell? ⟨w.heap.size, 2, none⟩ = some (.string V.t) := by rw [hc]; rfl
   have q3 : w5.cell? ⟨w.heap.size, 3, none⟩ = some (.slice an V.names.length ncap) := by rw [hc]; rfl
   have q4 : w5.cell? ⟨w.heap.size, 4, none⟩ = some (.slice ai V.items.length icap) := by rw [hc]; rfl
   clear hc
   have s5 : w5.heap.size = w1.heap.size + 3 := by rw [hw5]; simp
   have t5 : w5.heap[w1.heap.size + 1]? = some (.cells #[.func (.func 49) #[] #[.pointer (some ⟨w1.heap.size, 0, none⟩)]] 95 (0, 0)) := by
     rw [hw5]
     show (((w1.heap.push _).push _).push _)[w1.heap.size + 1]? = _
     rw [Array.getElem?_push, if_neg (by simp), Array.getElem?_push, if_pos (by simp)]
   have u5 : w5.heap[w1.heap.size + 1 + 1]? = some (.cells #[.func (.func 52) #[] #[.pointer (some ⟨w1.heap.size, 0, none⟩), .pointer (some ⟨w1.heap.size + 1, 0, none⟩), .pointer (some ⟨w1.heap.size + 1 + 1, 0, none⟩)]] 96 (0, 0)) := by
     rw [hw5]
     show (((w1.heap.push _).push _).push _)[w1.heap.size + 1 + 1]? = _
     rw [Array.getElem?_push, if_pos (by simp)]
   have hBld : Bld w1.heap.size w1.heap.size [] w5 := by
     rw [hw5]
     exact Bld.alloc (Bld.alloc (Lib.IsBuilderF.of (Lib.fresh_isBuilder _ _ w1)) _) _
   have hctx : WCtx w1.heap.size w1.heap.size (w1.heap.size + 1) (w1.heap.size + 1 + 1) w5 := ⟨Nat.le_refl _, t5, u5, by omega, by omega⟩
   have HW := Lib.hid hw5
   rw [hw5] at q0 q1 q2 q3 q4
   clear hw5 hbx1 hbx5 t5 u5
   go_wp2_with fail
   rw [← HW.out]
   have hV1 := h0.keep hb1
   have hgood := good_of_may _ _ _ HM.out
   have hsm := form_small (inV_of h) HM.out
   refine (write_any _ w1.heap.size w1.heap.size (w1.heap.size + 1) (w1.heap.size + 1 + 1) V _ w1 w5 [] (Nat.lt_succ_self _) hV1 (hB5) (Nat.le_refl _) (by omega) hctx hgood hBld (by simp; omega) ((henv.below hb0).below hb1)).mono ?_
   rintro e w6 ⟨rfl, hW6⟩
   go_wp2_with fail
   have hs6 := hW6.bel.size
   refine (Tryz.Builder_String_any_k w1.heap.size w1.heap.size _ w6 hW6.bld (by omega)).mono ?_
   rintro e w7 ⟨rfl, hB7, hb7, hk7⟩
   go_wp2_with fail
   go_ret2
   refine ⟨rfl, ?_⟩
   exact (hb0.trans (hb1.mono (by omega))).trans ((hB5.trans (hW6.bel.trans hb7)).mono (by omega))
end

section
open Go.RowKit
theorem Encode_yes (V : JV) (v : Value) (w : World) (h : ValAt w V v) (henv : TabEnv w) (hm : Hid (mayB V = true)) (s : ByteArray) (hs : Hid (s = (⟨(formV V).toArray⟩ : ByteArray))) :
   Calls Tryz.prog 25 #[v] w fun e w' => e = .returned (.tuple #[.string s, .int .i64 0]) ∧ Below w.heap.size w w' := by
 have hE := Encode_any V v w h henv
 rw [hm.out] at hE
 rw [hs.out]
 exact hE
end
end Go.Proofs.YtmggmpigpiaagaaGreatDoor
