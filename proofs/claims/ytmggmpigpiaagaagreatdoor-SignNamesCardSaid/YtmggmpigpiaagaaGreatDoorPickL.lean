/-
  pick.Of; Text, List, Object of a picker.
  List and Object of a picker.
-/
import Derived.Test.YtmggmpigpiaagaaGreatDoorPickB
import Derived.Deep.DeepWitnessRowRef
namespace Go.Proofs.YtmggmpigpiaagaaGreatDoor
section
set_option maxRecDepth 100000
open Go.RowKit Go.Maps
def POfPost (V : JV) (w : World) (e : Ending) (w' : World) : Prop :=
 ∃ (o B : Nat) (Q w0 : World) (x : VC), e = .returned (.pointer (some ⟨o, 0, none⟩)) ∧ Below w.heap.size w w' ∧ Below w.heap.size w w0 ∧ w.heap.size ≤ o ∧ w.heap.size ≤ B ∧ o < w'.heap.size ∧ B < w'.heap.size ∧ PSt Q w0 w' o B V x (pickQ V)
set_option maxHeartbeats 8000000 in
theorem pOf_any (V : JV) (x : VC) (w : World) (h : ValAt (pureW w) V x.val) (hf : Fit V) (hwt : wt V ≤ 1000000000) :
   Calls Tryz.prog 28 #[x.val] w (POfPost V w) := by
 obtain ⟨vn, vi, hxe, -, -, -, -, -, hns, his⟩ := valAt_iff.1 h
 obtain ⟨xk, xn, xt, xa, xl, xc, xb, xm, xe⟩ := x
 simp only [VC.val, Value.agg.injEq, Array.mk.injEq, List.cons.injEq, Value.int.injEq, Value.string.injEq, true_and, and_true] at hxe
 obtain ⟨e1, e2, e3, e4, e5⟩ := hxe
 rw [← e4] at hns
 rw [← e5] at his
 obtain ⟨xa', xcap, hxs, hxl, -, hnc⟩ := hns.parts
 obtain ⟨xi', xicap, hxi, hil, -⟩ := his.parts
 simp only [Value.slice.injEq] at hxs hxi
 obtain ⟨f1, f2, f3⟩ := hxs
 obtain ⟨f4, f5, f6⟩ := hxi
 subst f1
 have HV := Lib.hid h
 have HNC : Hid (∀ i s, V.names[i]? = some s → ∃ b o, xa = some ⟨b, o, none⟩ ∧ w.cell? ⟨b, o + i, none⟩ = some (.string s)) := fun i s hs => by
   obtain ⟨b, o, e, hc⟩ := hnc i s hs
   exact ⟨b, o, e, (pure_cell hc).2⟩
 have HWT := Lib.hid hwt
 have hB1 : Below w.heap.size w (w.alloc (.cells #[.int .u8 xk, .int .i64 xn, .string xt, .slice xa xl xc, .slice xb xm xe] 26)) := bel_alloc (Below.refl _ _) _
 have HA : Hid (BlkAt (w.alloc (.cells #[.int .u8 xk, .int .i64 xn, .string xt, .slice xa xl xc, .slice xb xm xe] 26)) w.heap.size 26 #[.int .u8 xk, .int .i64 xn, .string xt, .slice xa xl xc, .slice xb xm xe]) := blkAt_new w _ _
 have s1 := size_al w (.cells #[.int .u8 xk, .int .i64 xn, .string xt, .slice xa xl xc, .slice xb xm xe] 26)
 obtain ⟨w1, hw1⟩ : ∃ y, y = w.alloc (.cells #[.int .u8 xk, .int .i64 xn, .string xt, .slice xa xl xc, .slice xb xm xe] 26) := ⟨_, rfl⟩
 rw [← hw1] at hB1 HA s1
 have HW1 := Lib.hid hw1
 have HB1 := Lib.hid hB1
 obtain ⟨a0, a1, a2, a3, a4, af⟩ := b5 HA.out
 clear h hns his hnc e4 e5 hB1 hw1 hwt
 by_cases h5 : V.k = 5
 · obtain ⟨hl, hasc⟩ := hf h5
   have hk5 : xk = 5 := by rw [e1, h5]
   have hlm : xl = xm := by rw [f2, f5, hl]
   have hb5 : (xk != 5) = false := by rw [hk5]; rfl
   subst hlm
   have hneb : ((xl : Int) != (xl : Int)) = false := by simp
   have HASC := Lib.hid hasc
   have H5 := Lib.hid h5
   have HL := Lib.hid hl
   have HXL := Lib.hid f2
   have hxl' : xl ≤ 9223372036854775807 := by rw [f2]; exact hxl
   clear hf h5 hl hasc e1 e2 e3 f2 f3 f4 f5 f6 hk5 hxl hil
   go_enter Tryz.func28, Tryz.ntmps28
   simp only [VC.val]
   go_wp2_with fail
   rw [← HW1.out]
   go_loopw [3] (fun i wr => ∃ k : Nat, 1 ≤ k ∧ (k ≤ xl ∨ k = 1) ∧ i = .int .i64 k ∧ ∃ nq, wr = w1.drewN nq) (fun i _ => xl - (intOf i).toNat)
   case atStart => exact ⟨1, by omega, Or.inr rfl, rfl, 0, rfl⟩
   case round =>
     obtain ⟨k, hk1, hk, rfl, nq, rfl⟩ := hrel
     obtain ⟨j, rfl⟩ : ∃ j, k = j + 1 := ⟨k - 1, by omega⟩
     by_cases hlt : j + 1 < xl
     · obtain ⟨s, hs⟩ : ∃ s, V.names[j + 1]? = some s := ⟨_, List.getElem?_eq_getElem (by rw [← HXL.out]; exact hlt)⟩
       obtain ⟨p, hp⟩ : ∃ s, V.names[j]? = some s := ⟨_, List.getElem?_eq_getElem (by rw [← HXL.out]; omega)⟩
       obtain ⟨b, o, rfl, hcs⟩ := HNC.out (j + 1) s hs
       obtain ⟨b', o', hbo, hcp⟩ := HNC.out j p hp
       simp only [Option.some.injEq, Addr.mk.injEq, and_true] at hbo
       obtain ⟨rfl, rfl⟩ := hbo
       have hb : Op.bytesLess p.toList s.toList = true := by
         have h1 := HASC.out
         rw [ascB, List.all_eq_true] at h1
         have h2 := h1 j (List.mem_range.2 (by rw [← HXL.out]; omega))
         simpa [lessAt, List.getD, hs, hp] using h2
       have hcs' := cell_keep HB1.out hcs
       have hcp' := cell_keep HB1.out hcp
       clear hs hp hcs hcp
       have hw1 : IntKind.i64.wrap ((j : Int) + 1 - 1) = (j : Int) := by rw [IntWalk.i64_in ((j : Int) + 1 - 1) (by omega)]; omega
       have hj0 : (0 : Int) ≤ (j : Int) := by omega
       have hj1 : (j : Int) < (xl : Int) := by omega
       have hj2 : (j : Int) + 1 < (xl : Int) := by omega
       have hj3 : ((j : Int) + 1).toNat = j + 1 := by omega
       go_wp2_with fail
       go_quiet (fail)
       go_wp2_with fail
       refine ⟨⟨j + 1 + 1, by omega, by omega, by go_num, _, rfl⟩, ?_⟩
       simp [intOf]; omega
     · have hj2 : ¬ (j : Int) + 1 < (xl : Int) := by omega
       have HBN := Lib.hid (below_drewN HB1.out nq)
       have HCP := Lib.hid (Copy_any V (VC.val ⟨xk, xn, xt, xa, xl, xc, xb, xl, xe⟩) (w1.drewN nq) (HV.out.imp (pure_keep (below_drewN HB1.out nq))) HWT.out)
       simp only [VC.val] at HCP
       have hmm := @run_makeMap Tryz.prog
       go_wp2_with fail
       refine HCP.out.mono ?_
       rintro e w2 ⟨⟨yk, yn, yt, ya, yl, yc, yb, ym, ye⟩, rfl, hb2, hnew⟩
       have HB2 := Lib.hid hb2
       have HNEW : Hid (ValAt (hidden (offB (w1.drewN nq).heap.size none) w2) V (VC.val ⟨yk, yn, yt, ya, yl, yc, yb, ym, ye⟩)) := hnew
       clear hb2 hnew HCP
       simp only [VC.val]
       go_wp2_with fail
       go_ret
       have hbb := bel_alloc (bel_alloc (Below.refl w2.heap.size w2) (.map #[] 0)) (.cells #[.int .u8 yk, .int .i64 yn, .string yt, .slice ya yl yc, .slice yb ym ye, .map (some w2.heap.size), .int .i64 0] 107)
       have hw12 := below_more HBN.out HB2.out
       refine ⟨w2.heap.size + 1, w2.heap.size, hidden (offB (w1.drewN nq).heap.size none) w2, w2, ⟨yk, yn, yt, ya, yl, yc, yb, ym, ye⟩, rfl, below_more hw12 hbb, hw12, by have := hw12.size; omega, hw12.size, by rw [size_al, size_al]; omega, by rw [size_al, size_al]; omega, ?_⟩
       rw [pickQ, if_pos H5.out]
       refine ⟨hbb, fun p u hu => ?_, HNEW.out, H5.out, HL.out, HASC.out, HWT.out, by omega, by omega, by omega, ?_, ?_⟩
       · obtain ⟨-, q2, q3⟩ := (hidden_cell _ w2 p u).1 hu
         exact (hidden_cell _ w2 p u).2 ⟨rfl, q2, q3⟩
       · have := blkAt_new (w2.alloc (.map #[] 0)) #[.int .u8 yk, .int .i64 yn, .string yt, .slice ya yl yc, .slice yb ym ye, .map (some w2.heap.size), .int .i64 0] 107
         rwa [size_al] at this
       · exact (AskAt.made w2).keep (bel_alloc (Below.refl _ _) _)
 · have hb5 : (xk != 5) = true := by rw [e1, bne_iff_ne]; exact h5
   have hp : pickQ V = .bad 10 := by unfold pickQ; rw [if_neg h5]
   have HP := Lib.hid hp
   clear h5 hf e1 e2 e3 f2 f3 f4 f5 f6 hxl hil hp
   go_enter Tryz.func28, Tryz.ntmps28
   simp only [VC.val]
   go_wp2_with fail
   rw [← HW1.out]
   go_ret
   refine ⟨w.heap.size + 1, w.heap.size + 1, w1, w1, zC, rfl, bel_alloc HB1.out _, HB1.out, by omega, by omega, by rw [size_al]; omega, by rw [size_al]; omega, ?_⟩
   rw [HP.out]
   have hn := blkAt_new w1 #[.int .u8 0, .int .i64 0, .string ⟨#[]⟩, .slice none 0 0, .slice none 0 0, .map none, .int .i64 10] 107
   rw [s1] at hn
   exact ⟨bel_alloc (Below.refl _ _) _, by omega, by decide, _, _, _, _, _, _, hn⟩
/-! Text. -/
def TextC (y : JV) (er : Int) (tv : Value) (_ : World) : Prop := (y.k = 3 ∧ er = 0 ∧ tv = .string y.t) ∨ (y.k ≠ 3 ∧ er = 10)
set_option maxHeartbeats 4000000 in
theorem textConv_any (y : JV) (yv : VC) (W : World) (B : Nat) (h : NewV B W y yv.val) :
   Calls Tryz.prog 92 (#[yv.val] ++ #[]) W fun e W' => ∃ tv er, e = .returned (.tuple #[tv, .int .i64 er]) ∧ Below W.heap.size W W' ∧ TextC y er tv W' := by
 obtain ⟨yk, yn, yt, ya, yl, yc, yb, ym, ye⟩ := yv
 obtain ⟨hk, ht⟩ : y.k = yk ∧ y.t = yt := by
   obtain ⟨_, _, e1, -⟩ := valAt_iff.1 h
   simp only [VC.val, Value.agg.injEq, Array.mk.injEq, List.cons.injEq, Value.int.injEq, Value.string.injEq, true_and] at e1
   exact ⟨e1.1.symm, e1.2.2.1.symm⟩
 have HB : Hid (Below W.heap.size W (W.alloc (.cells #[.int .u8 yk, .int .i64 yn, .string yt, .slice ya yl yc, .slice yb ym ye] 26))) := bel_alloc (Below.refl _ _) _
 clear h
 simp only [VC.val]
 by_cases h3 : yk = 3
 · have hb : (yk != 3) = false := by rw [h3]; rfl
   have HR : Hid (TextC y 0 (.string yt) W) := Or.inl ⟨by rw [hk, h3], rfl, by rw [ht]⟩
   clear hk ht h3
   go_enter Tryz.func92, Tryz.ntmps92
   go_wp2_with fail
   go_ret2
   exact ⟨_, _, rfl, HB.out, HR.out⟩
 · have hb : (yk != 3) = true := by rw [bne_iff_ne]; exact h3
   have HR : Hid (TextC y 10 (.string ⟨#[]⟩) W) := Or.inr ⟨by rw [hk]; exact h3, rfl⟩
   clear hk ht h3
   go_enter Tryz.func92, Tryz.ntmps92
   go_wp2_with fail
   go_ret2
   exact ⟨_, _, rfl, HB.out, HR.out⟩
def PStep (s' : PS) (Q w0 w : World) (o B : Nat) (V : JV) (x : VC) (w' : World) : Prop := PSt Q w0 w' o B V x s' ∧ Sep w w' o (some B)
theorem takeQ_get {V : JV} {nm : ByteArray} {k : Int} {A : List ByteArray} (h5 : V.k = 5) {R : Option JV} (hR : getV V nm = R) : takeQ V nm k (.ok A) = match R with | none => (none, .bad 6) | some y => if y.k = k then (some y, .ok (A ++ [nm])) else (none, .bad 10) := by
 rw [takeQ]
 unfold getV at hR
 rw [if_pos h5] at hR
 rw [hR]
 cases R <;> rfl
set_option maxHeartbeats 4000000 in
theorem pText_any {Q w0 w : World} {o B : Nat} {V : JV} {x : VC} {s : PS} (h : PSt Q w0 w o B V x s) (nm : ByteArray) (hA : ∀ A, s = .ok A → A.length ≤ 900) (hn : nm.size ≤ maxLen) (t : ByteArray) (s' : PS) (hq : Hid (textQ V nm s = (t, s'))) :
   Calls Tryz.prog 64 #[.pointer (some ⟨o, 0, none⟩), .string nm] w fun e w' => e = .returned (.string t) ∧ PStep s' Q w0 w o B V x w' := by
 obtain ⟨R1, hR1⟩ : ∃ R, getV V nm = R := ⟨_, rfl⟩
 have eg : ∀ args w, (callFunc 92 args).run Tryz.prog w = .ok (.enter 92 args) w := enters_of Tryz.func92 (by kernel_rfl) rfl
 have HT := Lib.hid (pTakeStr_any h nm hA hn 92 #[] TextC eg R1 (Lib.hid hR1) (fun y yv W _ _ hv => textConv_any y yv W _ hv) (fun _ _ _ _ _ _ hc => hc))
 have HR := Lib.hid hR1
 have H5 : Hid (∀ A, s = .ok A → V.k = 5) := fun A hA => by subst hA; exact POk.five h
 clear h hA hn hR1
 go_enter Tryz.func64, Tryz.ntmps64
 go_wp2_with fail
 refine HT.out.mono ?_
 rintro e w' ⟨hsep, hp⟩
 have hq' := hq.out
 cases s with
 | bad er =>
   obtain ⟨rfl, hs⟩ := hp
   rw [textQ, takeQ] at hq'
   cases hq'
   have HS := Lib.hid hs
   have HSP := Lib.hid hsep
   clear hs hsep
   go_wp2_with fail
   go_ret
   exact ⟨rfl, HS.out, HSP.out⟩
 | ok A =>
   rw [textQ, takeQ_get (H5.out A rfl) HR.out] at hq'
   cases R1 with
   | none =>
     obtain ⟨rfl, hs⟩ := hp
     cases hq'
     have HS := Lib.hid hs
     have HSP := Lib.hid hsep
     clear hs hsep
     go_wp2_with fail
     go_ret
     exact ⟨rfl, HS.out, HSP.out⟩
   | some y =>
     obtain ⟨er, tv, hc, hp⟩ := hp
     have HSP := Lib.hid hsep
     simp only at hq'
     rcases hc with ⟨h3, rfl, rfl⟩ | ⟨h3, rfl⟩
     · rcases hp with ⟨-, rfl, hs⟩ | ⟨hne, -, -⟩
       · rw [if_pos h3] at hq'
         cases hq'
         have HS := Lib.hid hs
         clear hs hsep
         go_wp2_with fail
         go_ret
         exact ⟨rfl, HS.out, HSP.out⟩
       · exact absurd rfl hne
     · rcases hp with ⟨he, -, -⟩ | ⟨-, rfl, hs⟩
       · cases he
       · rw [if_neg h3] at hq'
         cases hq'
         have HS := Lib.hid hs
         clear hs hsep
         go_wp2_with fail
         go_ret
         exact ⟨rfl, HS.out, HSP.out⟩
end

section
set_option maxRecDepth 100000
open Go.RowKit Go.Maps
def ItemsC (most B0 : Nat) (y : JV) (er : Int) (tv : Value) (W : World) : Prop :=
 (y.k = 4 ∧ y.items.length ≤ most ∧ er = 0 ∧ ItemsAt (hidden (offB B0 none) W) tv y.items) ∨ (y.k = 4 ∧ most < y.items.length ∧ er = 5) ∨ (y.k ≠ 4 ∧ er = 10)
theorem newv_parts {B : Nat} {W : World} {y : JV} {yk yn : Int} {yt : ByteArray} {ya yb : Option Addr} {yl yc ym ye : Nat} (h : NewV B W y (VC.val ⟨yk, yn, yt, ya, yl, yc, yb, ym, ye⟩)) :
   y.k = yk ∧ y.n = yn ∧ y.t = yt ∧ y.names.length = yl ∧ y.items.length = ym ∧ StrsAt (hidden (offB B none) W) (.slice ya yl yc) y.names ∧ ItemsAt (hidden (offB B none) W) (.slice yb ym ye) y.items := by
 obtain ⟨vn, vi, e1, -, -, -, -, -, hn, hi⟩ := valAt_iff.1 h
 simp only [VC.val, Value.agg.injEq, Array.mk.injEq, List.cons.injEq, Value.int.injEq, Value.string.injEq, true_and, and_true] at e1
 obtain ⟨h1, h2, h3, h4, h5⟩ := e1
 rw [← h4] at hn
 rw [← h5] at hi
 obtain ⟨_, _, e2, -⟩ := hn.parts
 obtain ⟨_, _, e3, -⟩ := hi.parts
 simp only [Value.slice.injEq] at e2 e3
 exact ⟨h1.symm, h2.symm, h3.symm, e2.2.1.symm, e3.2.1.symm, hn, hi⟩
set_option maxHeartbeats 4000000 in
theorem pItems_any (y : JV) (yv : VC) (W : World) (B : Nat) (most : Nat) (h : NewV B W y yv.val) :
   Calls Tryz.prog 63 #[yv.val, .int .i64 most] W fun e W' => ∃ tv er, e = .returned (.tuple #[tv, .int .i64 er]) ∧ Below W.heap.size W W' ∧ ItemsC most B y er tv W' ∧ (er ≠ 0 → tv = .slice none 0 0) := by
 obtain ⟨yk, yn, yt, ya, yl, yc, yb, ym, ye⟩ := yv
 obtain ⟨hk, -, -, -, hm, -, hit⟩ := newv_parts h
 have HB : Hid (Below W.heap.size W (W.alloc (.cells #[.int .u8 yk, .int .i64 yn, .string yt, .slice ya yl yc, .slice yb ym ye] 26))) := bel_alloc (Below.refl _ _) _
 have HI : Hid (ItemsAt (hidden (offB B none) (W.alloc (.cells #[.int .u8 yk, .int .i64 yn, .string yt, .slice ya yl yc, .slice yb ym ye] 26))) (.slice yb ym ye) y.items) := hit.imp (Up.of_below HB.out).val
 clear h hit
 simp only [VC.val]
 by_cases h4 : yk = 4
 · have hb : (yk != 4) = false := by rw [h4]; rfl
   by_cases hl : most < ym
   · have hg : decide ((most : Int) < (ym : Int)) = true := decide_eq_true (by omega)
     have hg' : decide (most < ym) = true := decide_eq_true hl
     have HR : Hid (∀ W, ItemsC most B y 5 (.slice none 0 0) W) := fun W => Or.inr (Or.inl ⟨by rw [hk, h4], by omega, rfl⟩)
     clear hk hm h4 HI
     go_enter Tryz.func63, Tryz.ntmps63
     go_wp2_with fail
     go_ret2
     exact ⟨_, _, rfl, HB.out, HR.out _, fun _ => rfl⟩
   · have hg : decide ((most : Int) < (ym : Int)) = false := decide_eq_false (by omega)
     have hg' : decide (most < ym) = false := decide_eq_false hl
     have HR := Lib.hid (show ItemsC most B y 0 (.slice yb ym ye) (W.alloc (.cells #[.int .u8 yk, .int .i64 yn, .string yt, .slice ya yl yc, .slice yb ym ye] 26)) from Or.inl ⟨by rw [hk, h4], by omega, rfl, HI.out⟩)
     clear hk hm h4 HI
     go_enter Tryz.func63, Tryz.ntmps63
     go_wp2_with fail
     go_ret2
     exact ⟨_, _, rfl, HB.out, HR.out, fun h => absurd rfl h⟩
 · have hb : (yk != 4) = true := by rw [bne_iff_ne]; exact h4
   have HR : Hid (∀ W, ItemsC most B y 10 (.slice none 0 0) W) := fun W => Or.inr (Or.inr ⟨by rw [hk]; exact h4, rfl⟩)
   clear hk hm h4 HI
   go_enter Tryz.func63, Tryz.ntmps63
   go_wp2_with fail
   go_ret2
   exact ⟨_, _, rfl, HB.out, HR.out _, fun _ => rfl⟩
theorem ItemsC.up {most B0 : Nat} {y : JV} {er : Int} {tv : Value} {W W' : World} (hu : Up B0 W W') (h : ItemsC most B0 y er tv W) : ItemsC most B0 y er tv W' := by
 rcases h with ⟨h1, h2, h3, h4⟩ | h | h
 · exact Or.inl ⟨h1, h2, h3, h4.imp hu.val⟩
 · exact Or.inr (Or.inl h)
 · exact Or.inr (Or.inr h)
set_option maxHeartbeats 4000000 in
theorem listConv_any (y : JV) (yv : VC) (W : World) (B : Nat) (most mb : Nat) (h : NewV B W y yv.val) (hmb : W.cell? ⟨mb, 0, none⟩ = some (.int .i64 most)) :
   Calls Tryz.prog 62 (#[yv.val] ++ #[.pointer (some ⟨mb, 0, none⟩)]) W fun e W' => ∃ tv er, e = .returned (.tuple #[tv, .int .i64 er]) ∧ Below W.heap.size W W' ∧ ItemsC most B y er tv W' := by
 obtain ⟨yk, yn, yt, ya, yl, yc, yb, ym, ye⟩ := yv
 have HB : Hid (Below W.heap.size W (W.alloc (.cells #[.int .u8 yk, .int .i64 yn, .string yt, .slice ya yl yc, .slice yb ym ye] 26))) := bel_alloc (Below.refl _ _) _
 have HI := Lib.hid (pItems_any y ⟨yk, yn, yt, ya, yl, yc, yb, ym, ye⟩ _ B most (ValAt.imp (Up.of_below (B0 := B) HB.out).val h))
 have hmb2 := cell_keep HB.out hmb
 have hmlt : mb < W.heap.size := cell_lt hmb
 clear h
 simp only [VC.val] at HI ⊢
 go_enter Tryz.func62, Tryz.ntmps62
 go_wp2_with fail
 refine HI.out.mono ?_
 rintro e W2 ⟨tv, er, rfl, hb2, hc, -⟩
 have HB2 := Lib.hid (below_more HB.out hb2)
 have HC := Lib.hid hc
 clear hb2 hc HI
 go_wp2_with fail
 go_ret2
 exact ⟨_, _, rfl, HB2.out, HC.out⟩
theorem hid_lower {B0 B1 : Nat} (h : B1 ≤ B0) (W : World) : ∀ p u, (hidden (offB B0 none) W).cell? p = some u → (hidden (offB B1 none) W).cell? p = some u :=
 hid_imp fun _k _ ho => ⟨offB_none.2 (Nat.le_trans h (offB_none.1 ho)), rfl⟩
set_option maxHeartbeats 8000000 in
theorem pList_any {Q w0 w : World} {o B : Nat} {V : JV} {x : VC} {s : PS} (h : PSt Q w0 w o B V x s) (nm : ByteArray) (most : Nat) (hA : ∀ A, s = .ok A → A.length ≤ 900) (hn : nm.size ≤ maxLen) (l : List JV) (s' : PS) (hq : Hid (listQ V nm most s = (l, s'))) :
   Calls Tryz.prog 29 #[.pointer (some ⟨o, 0, none⟩), .string nm, .int .i64 most] w fun e w' => (∃ sv, e = .returned sv ∧ ItemsAt (hidden (offB w.heap.size none) w') sv l) ∧ PStep s' Q w0 w o B V x w' := by
 obtain ⟨R1, hR1⟩ : ∃ R, getV V nm = R := ⟨_, rfl⟩
 have eg : ∀ args w, (callFunc 62 args).run Tryz.prog w = .ok (.enter 62 args) w := enters_of Tryz.func62 (by kernel_rfl) rfl
 have hb1 : Below w.heap.size w (w.alloc (.cells #[.int .i64 most] 3)) := bel_alloc (Below.refl _ _) _
 have hmc : (w.alloc (.cells #[.int .i64 most] 3)).cell? ⟨w.heap.size, 0, none⟩ = some (.int .i64 most) := (blkAt_new w #[.int .i64 most] 3).cell 0
 have HT := Lib.hid (pTakeList_any (h.keep hb1) nm hA hn 62 #[.pointer (some ⟨w.heap.size, 0, none⟩)] (ItemsC most (w.heap.size + 1)) eg R1 (Lib.hid hR1) (fun y yv W _ hbW hv => listConv_any y yv W _ most w.heap.size (by rw [size_al] at hv; exact hv) (cell_keep hbW hmc)) (fun y er tv W W' hu hc => ItemsC.up (by rw [size_al] at hu; exact hu) hc))
 have HR := Lib.hid hR1
 have H5 : Hid (∀ A, s = .ok A → V.k = 5) := fun A hA => by subst hA; exact POk.five h
 have HB1 := Lib.hid hb1
 clear h hA hn hR1 hb1 hmc
 have hmf : ∀ (fn : Fn) (first cap : Array Value) (w : World), (Instr.makeFunc fn first cap).run Tryz.prog w = .ok (.func fn first cap) w := fun _ _ _ _ => rfl
 go_enter Tryz.func29, Tryz.ntmps29
 go_wp2_with fail
 refine HT.out.mono ?_
 rintro e w' ⟨hsep, hp⟩
 have HSP := Lib.hid (sepNew HB1.out hsep)
 have hq' := hq.out
 clear hsep HT
 cases s with
 | bad er =>
   obtain ⟨rfl, hs⟩ := hp
   rw [listQ, takeQ] at hq'
   cases hq'
   have HS := Lib.hid hs
   clear hs
   go_wp2_with fail
   go_ret
   exact ⟨⟨_, rfl, itemsAt_nil _⟩, HS.out, HSP.out⟩
 | ok A =>
   rw [listQ, takeQ_get (H5.out A rfl) HR.out] at hq'
   cases R1 with
   | none =>
     obtain ⟨rfl, hs⟩ := hp
     cases hq'
     have HS := Lib.hid hs
     clear hs
     go_wp2_with fail
     go_ret
     exact ⟨⟨_, rfl, itemsAt_nil _⟩, HS.out, HSP.out⟩
   | some y =>
     obtain ⟨er, tv, hc, hp⟩ := hp
     simp only at hq'
     rcases hc with ⟨h4, hl, rfl, hit⟩ | ⟨h4, hl, rfl⟩ | ⟨h4, rfl⟩
     · rcases hp with ⟨-, rfl, hs⟩ | ⟨hne, -, -⟩
       · rw [if_pos h4] at hq'
         simp only at hq'
         rw [if_neg (by omega)] at hq'
         cases hq'
         have HS := Lib.hid hs
         have HIT := Lib.hid (hit.imp (hid_lower (Nat.le_succ _) _))
         obtain ⟨ta, tc, rfl, -⟩ := hit.parts
         clear hs hit
         go_wp2_with fail
         go_ret
         exact ⟨⟨_, rfl, HIT.out⟩, HS.out, HSP.out⟩
       · exact absurd rfl hne
     · rcases hp with ⟨he, -, -⟩ | ⟨-, rfl, hs⟩
       · cases he
       · rw [if_pos h4] at hq'
         simp only at hq'
         rw [if_pos hl] at hq'
         cases hq'
         have HS := Lib.hid hs
         clear hs
         go_wp2_with fail
         go_ret
         exact ⟨⟨_, rfl, itemsAt_nil _⟩, HS.out, HSP.out⟩
     · rcases hp with ⟨he, -, -⟩ | ⟨-, rfl, hs⟩
       · cases he
       · rw [if_neg h4] at hq'
         cases hq'
         have HS := Lib.hid hs
         clear hs
         go_wp2_with fail
         go_ret
         exact ⟨⟨_, rfl, itemsAt_nil _⟩, HS.out, HSP.out⟩
/-! Object. -/
def ObjC (most B0 : Nat) (y : JV) (er : Int) (tv : VC) (W : World) : Prop :=
 (y.k = 5 ∧ y.items.length ≤ most ∧ er = 0 ∧ ValAt (hidden (offB B0 none) W) y tv.val) ∨ (y.k = 5 ∧ most < y.items.length ∧ er = 5) ∨ (y.k ≠ 5 ∧ er = 10)
theorem ObjC.up {most B0 : Nat} {y : JV} {er : Int} {tv : VC} {W W' : World} (hu : Up B0 W W') (h : ObjC most B0 y er tv W) : ObjC most B0 y er tv W' := by
 rcases h with ⟨h1, h2, h3, h4⟩ | h | h
 · exact Or.inl ⟨h1, h2, h3, h4.imp hu.val⟩
 · exact Or.inr (Or.inl h)
 · exact Or.inr (Or.inr h)
set_option maxHeartbeats 8000000 in
theorem objConv_any (y : JV) (yv : VC) (W : World) (B : Nat) (most mb : Nat) (h : NewV B W y yv.val) (hmb : W.cell? ⟨mb, 0, none⟩ = some (.int .i64 most)) :
   Calls Tryz.prog 67 (#[yv.val] ++ #[.pointer (some ⟨mb, 0, none⟩)]) W fun e W' => ∃ (tv : VC) (er : Int), e = .returned (.tuple #[tv.val, .int .i64 er]) ∧ Below W.heap.size W W' ∧ ObjC most B y er tv W' := by
 obtain ⟨yk, yn, yt, ya, yl, yc, yb, ym, ye⟩ := yv
 obtain ⟨hk, -, -, -, hm, -, -⟩ := newv_parts h
 have HEND : Hid (∀ cs, Below W.heap.size W ((W.alloc (.cells #[.int .u8 yk, .int .i64 yn, .string yt, .slice ya yl yc, .slice yb ym ye] 26)).alloc (.cells cs 26))) := fun cs => bel_alloc (bel_alloc (Below.refl _ _) _) _
 have HNEW : Hid (∀ cs, BlkAt ((W.alloc (.cells #[.int .u8 yk, .int .i64 yn, .string yt, .slice ya yl yc, .slice yb ym ye] 26)).alloc (.cells cs 26)) (W.heap.size + 1) 26 cs) := fun cs => by
   have := blkAt_new (W.alloc (.cells #[.int .u8 yk, .int .i64 yn, .string yt, .slice ya yl yc, .slice yb ym ye] 26)) cs 26
   rwa [size_al] at this
 have hmlt : mb < W.heap.size := cell_lt hmb
 have hms := cell_keep (HEND.out #[.int .u8 0, .int .i64 0, .string ⟨#[]⟩, .slice none 0 0, .slice none 0 0]) hmb
 have HV := Lib.hid h
 clear h
 simp only [VC.val]
 by_cases h5 : yk = 5
 · have hb : (yk != 5) = false := by rw [h5]; rfl
   by_cases hl : most < ym
   · have hg : decide ((most : Int) < (ym : Int)) = true := decide_eq_true (by omega)
     have hg' : decide (most < ym) = true := decide_eq_true hl
     have HRR : Hid (∀ W, ObjC most B y 5 zC W) := fun W => Or.inr (Or.inl ⟨by rw [hk, h5], by omega, rfl⟩)
     obtain ⟨q0, q1, q2, q3, q4, -⟩ := b5 (HNEW.out #[.int .u8 0, .int .i64 0, .string ⟨#[]⟩, .slice none 0 0, .slice none 0 0])
     clear hk hm h5
     go_enter Tryz.func67, Tryz.ntmps67
     go_wp2_with fail
     exact bodyPost_ret (v := .tuple #[zC.val, .int .i64 5]) (by simp [results, Tryz.results67, go_sem, zC, VC.val, q0, q1, q2, q3, q4]) rfl ⟨zC, 5, rfl, HEND.out _, HRR.out _⟩
   · have hg : decide ((most : Int) < (ym : Int)) = false := decide_eq_false (by omega)
     have hg' : decide (most < ym) = false := decide_eq_false hl
     have HRR : Hid (∀ W', ValAt (hidden (offB B none) W') y (VC.val ⟨yk, yn, yt, ya, yl, yc, yb, ym, ye⟩) → ObjC most B y 0 ⟨yk, yn, yt, ya, yl, yc, yb, ym, ye⟩ W') := fun W' hv => Or.inl ⟨by rw [hk, h5], by omega, rfl, hv⟩
     obtain ⟨q0, q1, q2, q3, q4, -⟩ := b5 (HNEW.out #[.int .u8 yk, .int .i64 yn, .string yt, .slice ya yl yc, .slice yb ym ye])
     clear hk hm h5
     go_enter Tryz.func67, Tryz.ntmps67
     go_wp2_with fail
     exact bodyPost_ret (v := .tuple #[VC.val ⟨yk, yn, yt, ya, yl, yc, yb, ym, ye⟩, .int .i64 0]) (by simp [results, Tryz.results67, go_sem, VC.val, q0, q1, q2, q3, q4]) rfl ⟨⟨yk, yn, yt, ya, yl, yc, yb, ym, ye⟩, 0, rfl, HEND.out _, HRR.out _ (ValAt.imp (Up.of_below (B0 := B) (HEND.out _)).val HV.out)⟩
 · have hb : (yk != 5) = true := by rw [bne_iff_ne]; exact h5
   have HRR : Hid (∀ W, ObjC most B y 10 zC W) := fun W => Or.inr (Or.inr ⟨by rw [hk]; exact h5, rfl⟩)
   obtain ⟨q0, q1, q2, q3, q4, -⟩ := b5 (HNEW.out #[.int .u8 0, .int .i64 0, .string ⟨#[]⟩, .slice none 0 0, .slice none 0 0])
   clear hk hm h5
   go_enter Tryz.func67, Tryz.ntmps67
   go_wp2_with fail
   exact bodyPost_ret (v := .tuple #[zC.val, .int .i64 10]) (by simp [results, Tryz.results67, go_sem, zC, VC.val, q0, q1, q2, q3, q4]) rfl ⟨zC, 10, rfl, HEND.out _, HRR.out _⟩
set_option maxHeartbeats 8000000 in
theorem pObject_any {Q w0 w : World} {o B : Nat} {V : JV} {x : VC} {s : PS} (h : PSt Q w0 w o B V x s) (nm : ByteArray) (most : Nat) (hA : ∀ A, s = .ok A → A.length ≤ 900) (hn : nm.size ≤ maxLen) (hw0 : w0.heap.size ≤ w.heap.size) (hBw : B < w.heap.size) (l : JV) (s' : PS) (hq : Hid (objQ V nm most s = (l, s'))) :
   Calls Tryz.prog 32 #[.pointer (some ⟨o, 0, none⟩), .string nm, .int .i64 most] w fun e w' => (∃ sv : VC, e = .returned sv.val ∧ ValAt (hidden (offB w.heap.size none) w') l sv.val) ∧ PStep s' Q w0 w o B V x w' := by
 obtain ⟨R1, hR1⟩ : ∃ R, getV V nm = R := ⟨_, rfl⟩
 have eg : ∀ args w, (callFunc 67 args).run Tryz.prog w = .ok (.enter 67 args) w := enters_of Tryz.func67 (by kernel_rfl) rfl
 obtain ⟨W, hW⟩ : ∃ W, W = (w.alloc (.cells #[.int .i64 most] 3)).alloc (.cells #[.int .u8 0, .int .i64 0, .string ⟨#[]⟩, .slice none 0 0, .slice none 0 0] 26) := ⟨_, rfl⟩
 have hb1 : Below w.heap.size w W := by rw [hW]; exact bel_alloc (bel_alloc (Below.refl _ _) _) _
 have hsW : W.heap.size = w.heap.size + 2 := by rw [hW, size_al, size_al]
 have hmc : W.cell? ⟨w.heap.size, 0, none⟩ = some (.int .i64 most) := by
   have : BlkAt W w.heap.size 3 #[.int .i64 most] := by rw [hW]; exact (blkAt_new w _ _).alloc _
   exact this.cell 0
 have HRB : Hid (BlkAt W (w.heap.size + 1) 26 #[.int .u8 0, .int .i64 0, .string ⟨#[]⟩, .slice none 0 0, .slice none 0 0]) := by
   rw [hW]
   have := blkAt_new (w.alloc (.cells #[.int .i64 most] 3)) #[.int .u8 0, .int .i64 0, .string ⟨#[]⟩, .slice none 0 0, .slice none 0 0] 26
   rwa [size_al] at this
 have ho := h.olt
 have HT := Lib.hid (pTakeVal_any (h.keep hb1) nm hA hn 67 #[.pointer (some ⟨w.heap.size, 0, none⟩)] (ObjC most (w.heap.size + 4)) eg R1 (Lib.hid hR1) (by omega) (by omega) (fun y yv Y _ hbY hv => objConv_any y yv Y _ most w.heap.size (by rw [hsW] at hv; exact hv) (cell_keep hbY hmc)) (fun y er tv Y Y' hu hc => ObjC.up (by rw [hsW] at hu; exact hu) hc))
 have HR := Lib.hid hR1
 have H5 : Hid (∀ A, s = .ok A → V.k = 5) := fun A hA => by subst hA; exact POk.five h
 have HB1 := Lib.hid hb1
 have HW := Lib.hid hW
 clear h hA hn hR1 hb1 hmc hW
 have hmf : ∀ (fn : Fn) (first cap : Array Value) (w : World), (Instr.makeFunc fn first cap).run Tryz.prog w = .ok (.func fn first cap) w := fun _ _ _ _ => rfl
 go_enter Tryz.func32, Tryz.ntmps32
 go_wp2_with fail
 rw [← HW.out]
 refine HT.out.mono ?_
 rintro e w' ⟨hsep, hp⟩
 have HSP := Lib.hid (sepNew HB1.out hsep)
 have HR' : Hid (BlkAt w' (w.heap.size + 1) 26 #[.int .u8 0, .int .i64 0, .string ⟨#[]⟩, .slice none 0 0, .slice none 0 0]) := (hsep.block _ (by omega) (by omega) (fun e => by have := Option.some.inj e; omega)).trans HRB.out
 obtain ⟨r0, r1, r2, r3, r4, rf⟩ := b5 HR'.out
 have hq' := hq.out
 have HFIN : Hid (∀ {st : PS} (hs : PSt Q w0 w' o B V x st) (v0 v1 v2 v3 v4 : Value), PStep st Q w0 w o B V x (((((w'.setCell ⟨w.heap.size + 1, 0, none⟩ v0).setCell ⟨w.heap.size + 1, 1, none⟩ v1).setCell ⟨w.heap.size + 1, 2, none⟩ v2).setCell ⟨w.heap.size + 1, 3, none⟩ v3).setCell ⟨w.heap.size + 1, 4, none⟩ v4)) := fun hs v0 v1 v2 v3 v4 => ⟨PSt.set5 hs (by omega) (by omega) (by omega) _ _ _ _ _, HSP.out.set5 (Nat.le_succ _) _ _ _ _ _⟩
 clear hsep HT
 cases s with
 | bad er =>
   obtain ⟨rfl, hs⟩ := hp
   rw [objQ, takeQ] at hq'
   cases hq'
   have HS := Lib.hid hs
   clear hs
   simp only [zV]
   go_wp2_with fail
   obtain ⟨q0, q1, q2, q3, q4, -⟩ := b5 (blk_set5 HR'.out (.int .u8 0) (.int .i64 0) (.string ⟨#[]⟩) (.slice none 0 0) (.slice none 0 0))
   exact bodyPost_ret (v := zC.val) (by simp [results, Tryz.results32, go_sem, zC, VC.val, q0, q1, q2, q3, q4]) rfl ⟨⟨zC, rfl, valAt_z _⟩, HFIN.out HS.out _ _ _ _ _⟩
 | ok A =>
   rw [objQ, takeQ_get (H5.out A rfl) HR.out] at hq'
   cases R1 with
   | none =>
     obtain ⟨rfl, hs⟩ := hp
     cases hq'
     have HS := Lib.hid hs
     clear hs
     simp only [zV]
     go_wp2_with fail
     obtain ⟨q0, q1, q2, q3, q4, -⟩ := b5 (blk_set5 HR'.out (.int .u8 0) (.int .i64 0) (.string ⟨#[]⟩) (.slice none 0 0) (.slice none 0 0))
     exact bodyPost_ret (v := zC.val) (by simp [results, Tryz.results32, go_sem, zC, VC.val, q0, q1, q2, q3, q4]) rfl ⟨⟨zC, rfl, valAt_z _⟩, HFIN.out HS.out _ _ _ _ _⟩
   | some y =>
     obtain ⟨er, tv, hc, hp⟩ := hp
     simp only at hq'
     rcases hc with ⟨h5, hl, rfl, hit⟩ | ⟨h5, hl, rfl⟩ | ⟨h5, rfl⟩
     · rcases hp with ⟨-, rfl, hs⟩ | ⟨hne, -, -⟩
       · rw [if_pos h5] at hq'
         simp only at hq'
         rw [if_neg (by omega)] at hq'
         cases hq'
         have HS := Lib.hid hs
         obtain ⟨tk, tn, tt, ta, tl, tc, tb, tm, te⟩ := tv
         have HIT := Lib.hid hit
         clear hs hit
         simp only [VC.val]
         go_wp2_with fail
         obtain ⟨q0, q1, q2, q3, q4, -⟩ := b5 (blk_set5 HR'.out (.int .u8 tk) (.int .i64 tn) (.string tt) (.slice ta tl tc) (.slice tb tm te))
         exact bodyPost_ret (v := VC.val ⟨tk, tn, tt, ta, tl, tc, tb, tm, te⟩) (by simp [results, Tryz.results32, go_sem, VC.val, q0, q1, q2, q3, q4]) rfl ⟨⟨_, rfl, (HIT.out.imp (Up.set5 (Up.of_below (Below.refl _ _)) (by omega) _ _ _ _ _).val).imp (hid_lower (by omega) _)⟩, HFIN.out HS.out _ _ _ _ _⟩
       · exact absurd rfl hne
     · rcases hp with ⟨he, -, -⟩ | ⟨-, rfl, hs⟩
       · cases he
       · rw [if_pos h5] at hq'
         simp only at hq'
         rw [if_pos hl] at hq'
         cases hq'
         have HS := Lib.hid hs
         clear hs
         simp only [zV]
         go_wp2_with fail
         obtain ⟨q0, q1, q2, q3, q4, -⟩ := b5 (blk_set5 HR'.out (.int .u8 0) (.int .i64 0) (.string ⟨#[]⟩) (.slice none 0 0) (.slice none 0 0))
         exact bodyPost_ret (v := zC.val) (by simp [results, Tryz.results32, go_sem, zC, VC.val, q0, q1, q2, q3, q4]) rfl ⟨⟨zC, rfl, valAt_z _⟩, HFIN.out HS.out _ _ _ _ _⟩
     · rcases hp with ⟨he, -, -⟩ | ⟨-, rfl, hs⟩
       · cases he
       · rw [if_neg h5] at hq'
         cases hq'
         have HS := Lib.hid hs
         clear hs
         simp only [zV]
         go_wp2_with fail
         obtain ⟨q0, q1, q2, q3, q4, -⟩ := b5 (blk_set5 HR'.out (.int .u8 0) (.int .i64 0) (.string ⟨#[]⟩) (.slice none 0 0) (.slice none 0 0))
         exact bodyPost_ret (v := zC.val) (by simp [results, Tryz.results32, go_sem, zC, VC.val, q0, q1, q2, q3, q4]) rfl ⟨⟨zC, rfl, valAt_z _⟩, HFIN.out HS.out _ _ _ _ _⟩
end
end Go.Proofs.YtmggmpigpiaagaaGreatDoor
