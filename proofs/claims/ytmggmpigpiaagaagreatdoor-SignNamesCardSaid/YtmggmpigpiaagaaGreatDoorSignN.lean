/-
 sign.Signed and sign.Value of an envelope that may not be.
-/
import Derived.Test.YtmggmpigpiaagaaGreatDoorSignM
namespace Go.Proofs.YtmggmpigpiaagaaGreatDoor
set_option maxRecDepth 100000
open Go.RowKit
set_option maxHeartbeats 4000000 in
theorem sSigned_no (X : JV) (l : List SigP) (y : VC) (a : Option Addr) (n c : Nat) (w : World) (hn : l.length = n) (h : ValAt w X y.val) (hs : SigsAt w (.slice a n c) l) (hl : n ≤ 1000) (hz : ∀ s ∈ l, s.1.size ≤ 281474976710656 ∧ s.2.size ≤ 281474976710656) (hzm : ∀ s ∈ l, s.1.size ≤ maxLen ∧ s.2.size ≤ maxLen) (hm : Hid (envMay l X = false)) :
   Calls Tryz.prog 14 #[envVal y a n c] w fun e w' => e = .returned (.tuple #[.string ⟨#[]⟩, .int .i64 3]) ∧ Below w.heap.size w w' := by
 have HM := Lib.hid (fun W (hb : Below w.heap.size w W) => sMay_any X l y a n c W hn (h.keep hb) (hs.keep hb) hl hz hzm false hm)
 obtain ⟨yk, yn, yt, ya, yl, yc, yb, ym, ye⟩ := y
 have HB1 : Hid (Below w.heap.size w (w.alloc (.cells #[.int .u8 yk, .int .i64 yn, .string yt, .slice ya yl yc, .slice yb ym ye, .slice a n c] 29))) := bel_alloc (Below.refl _ _) _
 clear h hs hz hzm
 go_enter Tryz.func14, Tryz.ntmps14
 simp only [envVal] at HM ⊢
 go_wp2_with fail
 refine (HM.out _ HB1.out).mono ?_
 rintro e w2 ⟨rfl, hb2⟩
 have HB2 := Lib.hid (below_more HB1.out hb2)
 clear hb2
 go_wp2_with fail
 go_ret2
 exact ⟨rfl, HB2.out⟩
set_option maxHeartbeats 4000000 in
theorem sValue_no (X : JV) (l : List SigP) (y : VC) (a : Option Addr) (n c : Nat) (w : World) (hn : l.length = n) (h : ValAt w X y.val) (hs : SigsAt w (.slice a n c) l) (hl : n ≤ 1000) (hz : ∀ s ∈ l, s.1.size ≤ 281474976710656 ∧ s.2.size ≤ 281474976710656) (hzm : ∀ s ∈ l, s.1.size ≤ maxLen ∧ s.2.size ≤ maxLen) (hm : Hid (envMay l X = false)) :
   Calls Tryz.prog 13 #[envVal y a n c] w fun e w' => e = .returned (.tuple #[zC.val, .int .i64 3]) ∧ Below w.heap.size w w' := by
 have HM := Lib.hid (fun W (hb : Below w.heap.size w W) => sMay_any X l y a n c W hn (h.keep hb) (hs.keep hb) hl hz hzm false hm)
 obtain ⟨yk, yn, yt, ya, yl, yc, yb, ym, ye⟩ := y
 obtain ⟨W, hW⟩ : ∃ W, W = (w.alloc (.cells #[.int .u8 yk, .int .i64 yn, .string yt, .slice ya yl yc, .slice yb ym ye, .slice a n c] 29)).alloc (.cells #[.int .u8 0, .int .i64 0, .string ⟨#[]⟩, .slice none 0 0, .slice none 0 0] 26) := ⟨_, rfl⟩
 have hbW : Below w.heap.size w W := by rw [hW]; exact bel_alloc (bel_alloc (Below.refl _ _) _) _
 have hrb : BlkAt W (w.heap.size + 1) 26 #[.int .u8 0, .int .i64 0, .string ⟨#[]⟩, .slice none 0 0, .slice none 0 0] := by
   rw [hW]
   have := blkAt_new (w.alloc (.cells #[.int .u8 yk, .int .i64 yn, .string yt, .slice ya yl yc, .slice yb ym ye, .slice a n c] 29)) #[.int .u8 0, .int .i64 0, .string ⟨#[]⟩, .slice none 0 0, .slice none 0 0] 26
   rwa [size_al] at this
 have HBW := Lib.hid hbW
 have HRB := Lib.hid hrb
 have HW := Lib.hid hW
 clear h hs hz hzm hbW hrb hW
 go_enter Tryz.func13, Tryz.ntmps13
 simp only [envVal] at HM ⊢
 go_wp2_with fail
 rw [← HW.out]
 refine (HM.out _ HBW.out).mono ?_
 rintro e w2 ⟨rfl, hb2⟩
 have HB2 := Lib.hid (below_more HBW.out hb2)
 have HR2 := Lib.hid (BlkAt.keep HRB.out hb2)
 obtain ⟨r0, r1, r2, r3, r4, rf⟩ := b5 HR2.out
 clear hb2 HW
 go_wp2_with fail
 obtain ⟨q0, q1, q2, q3, q4, -⟩ := b5 (blk_set5 HR2.out (.int .u8 0) (.int .i64 0) (.string ⟨#[]⟩) (.slice none 0 0) (.slice none 0 0))
 exact bodyPost_ret (v := .tuple #[zC.val, .int .i64 3]) (by simp [results, Tryz.results13, go_sem, zC, VC.val, q0, q1, q2, q3, q4]) rfl ⟨rfl, bset5 HB2.out (Nat.le_succ _) _ _ _ _ _⟩
theorem valAt_kind {w : World} {V : JV} {y : VC} (k : Int) (h0 : 0 ≤ k) (h1 : k ≤ 255) (h : ValAt w V y.val) : ValAt w (.mk k V.n V.t V.names V.items) (VC.val ⟨k, y.n, y.t, y.a, y.l, y.c, y.b, y.m, y.e⟩) := by
 obtain ⟨vn, vi, e, -, -, n0, n1, ht, hs, hi⟩ := valAt_iff.1 h
 simp only [VC.val, Value.agg.injEq, Array.mk.injEq, List.cons.injEq, Value.int.injEq, Value.string.injEq, true_and, and_true] at e
 obtain ⟨-, e2, e3, e4, e5⟩ := e
 refine valAt_iff.2 ⟨vn, vi, ?_, h0, h1, n0, n1, ht, hs, hi⟩
 simp only [VC.val, JV.k, JV.n, JV.t, e2, e3, e4, e5]
theorem valAt_names {w : World} {V : JV} {y : VC} {ns : List ByteArray} {a : Option Addr} {l c : Nat} (hs : StrsAt w (.slice a l c) ns) (h : ValAt w V y.val) : ValAt w (.mk V.k V.n V.t ns V.items) (VC.val ⟨y.k, y.n, y.t, a, l, c, y.b, y.m, y.e⟩) := by
 obtain ⟨vn, vi, e, k0, k1, n0, n1, ht, -, hi⟩ := valAt_iff.1 h
 simp only [VC.val, Value.agg.injEq, Array.mk.injEq, List.cons.injEq, Value.int.injEq, Value.string.injEq, true_and, and_true] at e
 obtain ⟨e1, e2, e3, -, e5⟩ := e
 refine valAt_iff.2 ⟨_, vi, ?_, k0, k1, n0, n1, ht, hs, hi⟩
 simp only [VC.val, JV.k, JV.n, JV.t, e1, e2, e3, e5]
end Go.Proofs.YtmggmpigpiaagaaGreatDoor
