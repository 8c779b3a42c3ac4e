/-
  legateref09: value, whole; Read: what the document's reading of a text of JSON gives: the same as readV.
-/
import Derived.Test.YtfdecbfcddkoiaaGreatDoorWkObj
import Derived.Test.YtfdecbfcddkoiaaGreatDoorReadRead
namespace Go.Proofs.YtfdecbfcddkoiaaGreatDoor
open Go.RowKit

set_option maxRecDepth 100000 in
set_option maxHeartbeats 8000000 in
theorem wvalue_go {w : World} {r d : Nat} {s : ByteArray} {m : Mk} {ms : List Lx} {c : Nat} (deep : Int) (hd0 : 0 ≤ deep) (hd1 : deep < 12) (hs : s.size ≤ 65536) (hV : WVal s r d (deep + 1)) (h : WSt w r s m ms c) (hk : m.k = 1 ∨ m.k = 3) (hc : c < 8192) (R : PR JV) (hR : Hid ((if m.k = 3 then listP (valP d) ms (c + 1) else objP (valP d) ms (c + 1)) = R)) :
    Calls Tryz.prog 15 #[.pointer (some ⟨r, 0, none⟩), .int .i64 deep] w (WPost R s r w) := by
  have hlt := h.lt
  obtain ⟨c1, -, -, c7, cf⟩ := h.cells
  have hc' : ¬ (8192 : Int) < (c : Int) + 1 := by omega
  have hdb : ¬ (12 : Int) ≤ deep := by omega
  have h11 : m.k ≠ 11 := by omega
  have hsz0 : (w.setCell ⟨r, 7, none⟩ (.int .i64 ((c : Int) + 1))).heap.size = w.heap.size := size_set _ _ _
  have HG0 : Hid (w.grownBy ((w.setCell ⟨r, 7, none⟩ (.int .i64 ((c : Int) + 1))).alloc (.cells zeroCs 26)) (some r)) := grown_alloc (grown_set (World.grownBy.refl _ _) _ _) _
  have HSt0 : Hid (WSt ((w.setCell ⟨r, 7, none⟩ (.int .i64 ((c : Int) + 1))).alloc (.cells zeroCs 26)) r s m ms ((c + 1 : Nat) : Int)) := (h.count ((c : Int) + 1)).keep (bel_alloc (Below.refl _ _) _)
  have HRB : Hid (BlkAt ((w.setCell ⟨r, 7, none⟩ (.int .i64 ((c : Int) + 1))).alloc (.cells zeroCs 26)) w.heap.size 26 zeroCs) := by
    have := blkAt_new (w.setCell ⟨r, 7, none⟩ (.int .i64 ((c : Int) + 1))) zeroCs 26
    rwa [hsz0] at this
  have HS0 : Hid ((World.heap ((w.setCell ⟨r, 7, none⟩ (.int .i64 ((c : Int) + 1))).alloc (.cells zeroCs 26))).size = w.heap.size + 1) := by show _ = _; rw [size_al, hsz0]
  clear h hsz0
  rcases hk with e | e
  · rw [e] at c1
    have hr := hR.out
    rw [if_neg (by omega)] at hr
    have HC := Lib.hid (wobj_any deep hd0 (by omega) hs hV HSt0.out h11 (by omega) R hr)
    clear e hR hr
    go_enter Tryz.func15, Tryz.ntmps15
    go_wp2_with fail
    cases R with
    | bad p er =>
      refine HC.out.mono ?_
      rintro e' w1 ⟨hg1, rfl, hbad⟩
      have hs1 := hg1.size
      rw [HS0.out] at hs1
      obtain ⟨z0, z1, z2, z3, z4, zf⟩ := blk5 (HRB.out.grown hg1 (by intro e; have e2 : w.heap.size = r := Option.some.inj e; omega))
      have hg := HG0.out.trans hg1
      simp only [zeroV]
      go_wp2_with fail
      exact bodyPost_ret (v := .tuple #[zeroV, .bool false]) (by simp [results, Tryz.results15, go_sem, zeroV, z0, z1, z2, z3, z4]) rfl ⟨grown_set5 hg (Nat.le_refl _) _ _ _ _ _, rfl, hbad.same (heap_set5 _ _ _ _ _ _ _ _ (by omega))⟩
    | ok V ms1 c1 =>
      refine HC.out.mono ?_
      rintro e' w1 ⟨hg1, ⟨xk, xn, xt, xa, xl, xc, xb, xm, xe⟩, m1, rfl, hnew, hst1, hk1⟩
      have hs1 := hg1.size
      rw [HS0.out] at hs1
      obtain ⟨z0, z1, z2, z3, z4, zf⟩ := blk5 (HRB.out.grown hg1 (by intro e; have e2 : w.heap.size = r := Option.some.inj e; omega))
      have HST := Lib.hid hst1
      have HNew := Lib.hid hnew
      have hg := HG0.out.trans hg1
      clear hst1 hnew hg1
      simp only [VC.val]
      go_wp2_with fail
      exact bodyPost_ret (v := .tuple #[.agg #[.int .u8 xk, .int .i64 xn, .string xt, .slice xa xl xc, .slice xb xm xe], .bool true]) (by simp [results, Tryz.results15, go_sem, z0, z1, z2, z3, z4]) rfl
        ⟨grown_set5 hg (Nat.le_refl _) _ _ _ _ _, ⟨xk, xn, xt, xa, xl, xc, xb, xm, xe⟩, m1, rfl,
          HNew.out.carry (fun k hk hP => by
            have hk2 := offB_none.1 hP
            rw [HS0.out] at hk2
            exact ⟨offB_none.2 (by omega), heap_set5 _ _ _ _ _ _ _ _ (by omega)⟩),
          HST.out.same (heap_set5 _ _ _ _ _ _ _ _ (by omega)), hk1⟩
  · rw [e] at c1
    have hr := hR.out
    rw [if_pos e] at hr
    have HC := Lib.hid (wlist_any deep hd0 (by omega) hs hV HSt0.out h11 (by omega) R hr)
    clear e hR hr
    go_enter Tryz.func15, Tryz.ntmps15
    go_wp2_with fail
    cases R with
    | bad p er =>
      refine HC.out.mono ?_
      rintro e' w1 ⟨hg1, rfl, hbad⟩
      have hs1 := hg1.size
      rw [HS0.out] at hs1
      obtain ⟨z0, z1, z2, z3, z4, zf⟩ := blk5 (HRB.out.grown hg1 (by intro e; have e2 : w.heap.size = r := Option.some.inj e; omega))
      have hg := HG0.out.trans hg1
      simp only [zeroV]
      go_wp2_with fail
      exact bodyPost_ret (v := .tuple #[zeroV, .bool false]) (by simp [results, Tryz.results15, go_sem, zeroV, z0, z1, z2, z3, z4]) rfl ⟨grown_set5 hg (Nat.le_refl _) _ _ _ _ _, rfl, hbad.same (heap_set5 _ _ _ _ _ _ _ _ (by omega))⟩
    | ok V ms1 c1 =>
      refine HC.out.mono ?_
      rintro e' w1 ⟨hg1, ⟨xk, xn, xt, xa, xl, xc, xb, xm, xe⟩, m1, rfl, hnew, hst1, hk1⟩
      have hs1 := hg1.size
      rw [HS0.out] at hs1
      obtain ⟨z0, z1, z2, z3, z4, zf⟩ := blk5 (HRB.out.grown hg1 (by intro e; have e2 : w.heap.size = r := Option.some.inj e; omega))
      have HST := Lib.hid hst1
      have HNew := Lib.hid hnew
      have hg := HG0.out.trans hg1
      clear hst1 hnew hg1
      simp only [VC.val]
      go_wp2_with fail
      exact bodyPost_ret (v := .tuple #[.agg #[.int .u8 xk, .int .i64 xn, .string xt, .slice xa xl xc, .slice xb xm xe], .bool true]) (by simp [results, Tryz.results15, go_sem, z0, z1, z2, z3, z4]) rfl
        ⟨grown_set5 hg (Nat.le_refl _) _ _ _ _ _, ⟨xk, xn, xt, xa, xl, xc, xb, xm, xe⟩, m1, rfl,
          HNew.out.carry (fun k hk hP => by
            have hk2 := offB_none.1 hP
            rw [HS0.out] at hk2
            exact ⟨offB_none.2 (by omega), heap_set5 _ _ _ _ _ _ _ _ (by omega)⟩),
          HST.out.same (heap_set5 _ _ _ _ _ _ _ _ (by omega)), hk1⟩

/-- value keeps its contract, however many lists and objects are left. -/
theorem wval_all {s : ByteArray} {r : Nat} (hs : s.size ≤ 65536) : ∀ d : Nat, d ≤ 12 → WVal s r d (12 - d : Int)
  | 0, _ => fun w m ms c h hc => by
    rw [valP]
    by_cases h1 : begV m = false
    · rw [if_pos h1]; exact wvalue_wrong _ h h1 _ (Lib.hid rfl)
    rw [if_neg h1]
    by_cases h2 : 8192 ≤ c
    · rw [if_pos h2]; exact wvalue_much _ h h1 h2 hc
    rw [if_neg h2]
    by_cases h3 : m.k ≠ 1 ∧ m.k ≠ 3
    · rw [if_pos h3]; exact wvalue_leaf _ h (by have := beg_cases h1; omega) (by omega)
    · rw [if_neg h3]; exact wvalue_deep _ h (by omega) (by omega) (by simp)
  | d + 1, hd => fun w m ms c h hc => by
    rw [valP]
    by_cases h1 : begV m = false
    · rw [if_pos h1]; exact wvalue_wrong _ h h1 _ (Lib.hid rfl)
    rw [if_neg h1]
    by_cases h2 : 8192 ≤ c
    · rw [if_pos h2]; exact wvalue_much _ h h1 h2 hc
    rw [if_neg h2]
    by_cases h3 : m.k ≠ 1 ∧ m.k ≠ 3
    · rw [if_pos h3]; exact wvalue_leaf _ h (by have := beg_cases h1; omega) (by omega)
    · rw [if_neg h3]
      have hV := wval_all (r := r) hs d (by omega)
      have e : (12 - d : Int) = (12 - ((d + 1 : Nat) : Int)) + 1 := by omega
      rw [e] at hV
      exact wvalue_go _ (by omega) (by omega) hs hV h (by omega) (by omega) _ (Lib.hid rfl)
/-- What the document's Read leaves behind. -/
def RefPost (R : PR JV) (w : World) (e : Ending) (w' : World) : Prop :=
  Below w.heap.size w w' ∧ match R with
    | .bad p er => e = .returned (.tuple #[zeroV, .int .i64 p, .int .i64 er])
    | .ok V _ _ => ∃ x : VC, e = .returned (.tuple #[x.val, .int .i64 0, .int .i64 0]) ∧ NewV w.heap.size w' V x.val
def wkZero (s : ByteArray) : Array Value := #[.string s, .int .u8 0, .int .i64 0, .int .i64 0, .int .i64 0, .string ⟨#[]⟩, .int .i64 0, .int .i64 0, .int .i64 0, .int .i64 0]
theorem WBad.cells {w : World} {r : Nat} {s : ByteArray} {p : Nat} {e : Int} (h : WBad w r s p e) : w.cell? ⟨r, 8, none⟩ = some (.int .i64 p) ∧ w.cell? ⟨r, 9, none⟩ = some (.int .i64 e) ∧ r < w.heap.size := by
  obtain ⟨m, a, n, h⟩ := h
  obtain ⟨-, -, -, -, -, -, -, -, c8, c9, -⟩ := wk10 h
  exact ⟨c8, c9, BlkAt.lt h⟩
set_option maxRecDepth 100000 in
set_option maxHeartbeats 8000000 in
theorem wread_any (s : ByteArray) (w : World) (hs : s.size ≤ 9223372036854775807) (R : PR JV) (hR : Hid (readV s.data.toList = R)) :
    Calls Tryz.prog 7 #[.string s] w (RefPost R w) := by
  have hr := hR.out
  unfold readV at hr
  rw [size_len] at hr
  by_cases hl : 65536 < s.size
  · rw [if_pos hl] at hr
    subst hr
    have hl' : (65536 : Int) < (s.size : Int) := by omega
    clear hR hl
    go_enter Tryz.func7, Tryz.ntmps7
    go_wp2_with fail
    exact bodyPost_ret (v := .tuple #[zeroV, .int .i64 0, .int .i64 5]) (by simp [results, Tryz.results7, go_sem, zeroV]) rfl ⟨bel_alloc (Below.refl _ _) _, rfl⟩
  rw [if_neg hl] at hr
  have hl' : ¬ (65536 : Int) < (s.size : Int) := by omega
  have hs' : s.size ≤ 65536 := by omega
  obtain ⟨W0, hW0⟩ : ∃ W0, W0 = (w.alloc (.cells zeroCs 26)).alloc (.cells (wkZero s) 52) := ⟨_, rfl⟩
  have HG0 : Hid (w.grownBy W0 (some (w.heap.size + 1))) := by rw [hW0]; exact grown_alloc (grown_alloc (World.grownBy.refl _ _) _) _
  have HSt0 : Hid (WSt W0 (w.heap.size + 1) s ⟨0, 0, 0, 0, []⟩ (lexes s.data.toList 0) 0) := by
    rw [hW0]
    refine ⟨?_, Nat.zero_le _, by simp, by decide, by decide, by decide⟩
    have := blkAt_new (w.alloc (.cells zeroCs 26)) (wkZero s) 52
    rwa [size_al] at this
  have HRB : Hid (BlkAt W0 w.heap.size 26 zeroCs) := by rw [hW0]; exact (blkAt_new w zeroCs 26).alloc _
  have HS0 : Hid (W0.heap.size = w.heap.size + 2) := by rw [hW0]; show _ = _; rw [size_al, size_al]
  cases hlx : lexes s.data.toList 0 with
  | nil => exact absurd hlx (lexes_ne _ _)
  | cons x0 tl =>
    rw [hlx] at hr HSt0
    cases x0 with
    | err p e =>
      dsimp only [nextL] at hr
      subst hr
      have HN := Lib.hid (wnext_err hs' HSt0.out (by decide) (Lib.hid rfl))
      subst hW0
      clear hR hl hlx
      go_enter Tryz.func7, Tryz.ntmps7
      go_wp2_with fail
      refine HN.out.mono ?_
      rintro e' w1 ⟨rfl, hg1, hb1⟩
      obtain ⟨z0, z1, z2, z3, z4, zf⟩ := blk5 (HRB.out.grown hg1 (by intro e; have e2 : w.heap.size = w.heap.size + 1 := Option.some.inj e; omega))
      obtain ⟨hpc, hec, hrl⟩ := hb1.cells
      have hbel := below_of_grown (HG0.out.trans hg1) (by omega)
      go_wp2_with fail
      go_region
      go_wp2_with fail
      exact bodyPost_ret (v := .tuple #[zeroV, .int .i64 p, .int .i64 e]) (by simp [results, Tryz.results7, go_sem, zeroV, z0, z1, z2, z3, z4]) rfl ⟨bel_drew (bel_set5 hbel (Nat.le_refl _) _ _ _ _ _), rfl⟩
    | tok m =>
      dsimp only [nextL] at hr
      unfold topP at hr
      have HN := Lib.hid (wnext_tok hs' HSt0.out (by decide) (Lib.hid rfl))
      obtain ⟨R1, hR1⟩ : ∃ R1, valP 12 m tl 0 = R1 := ⟨_, rfl⟩
      rw [hR1] at hr
      have HR1 := Lib.hid hR1
      subst hW0
      clear hR hl hlx hR1
      go_enter Tryz.func7, Tryz.ntmps7
      go_wp2_with fail
      refine HN.out.mono ?_
      rintro e' w1 ⟨rfl, hg1, hst1⟩
      have HZ1 : Hid (BlkAt w1 w.heap.size 26 zeroCs) := HRB.out.grown hg1 (by intro e; have e2 : w.heap.size = w.heap.size + 1 := Option.some.inj e; omega)
      have HG1 : Hid (w.grownBy w1 (some (w.heap.size + 1))) := HG0.out.trans hg1
      have hs1 := hg1.size
      rw [HS0.out] at hs1
      have HC : Hid (Calls Tryz.prog 15 #[.pointer (some ⟨w.heap.size + 1, 0, none⟩), .int .i64 0] w1 (WPost R1 s (w.heap.size + 1) w1)) := by
        have := wval_all (r := w.heap.size + 1) hs' 12 (Nat.le_refl _) w1 m tl 0 hst1 (by omega)
        rw [HR1.out] at this
        exact this
      clear hst1 hg1 HN HRB HG0 HSt0 HS0
      cases R1 with
      | bad p er =>
        dsimp only at hr
        subst hr
        go_wp2_with fail
        refine HC.out.mono ?_
        rintro e' w2 ⟨hg2, rfl, hb2⟩
        have hs2 := hg2.size
        have hbA : Below w2.heap.size w2 (w2.alloc (.cells #[.int .u8 0, .int .i64 0, .string ⟨#[]⟩, .slice none 0 0, .slice none 0 0] 26)) := bel_alloc (Below.refl _ _) _
        have HZ3 : Hid (BlkAt (w2.alloc (.cells #[.int .u8 0, .int .i64 0, .string ⟨#[]⟩, .slice none 0 0, .slice none 0 0] 26)) w.heap.size 26 zeroCs) := (HZ1.out.grown hg2 (by intro e; have e2 : w.heap.size = w.heap.size + 1 := Option.some.inj e; omega)).alloc _
        have hb3 := hb2.same (hbA.block (w.heap.size + 1) (by omega))
        have hbel := below_more (below_of_grown (HG1.out.trans hg2) (by omega)) hbA
        clear hg2 hb2 hbA
        simp only [zeroV]
        go_wp2_with fail
        generalize w2.alloc (.cells #[.int .u8 0, .int .i64 0, .string ⟨#[]⟩, .slice none 0 0, .slice none 0 0] 26) = w3 at HZ3 hb3 hbel ⊢
        obtain ⟨z0, z1, z2, z3, z4, zf⟩ := blk5 HZ3.out
        obtain ⟨hpc, hec, hrl⟩ := hb3.cells
        go_region
        go_wp2_with fail
        exact bodyPost_ret (v := .tuple #[zeroV, .int .i64 p, .int .i64 er]) (by simp [results, Tryz.results7, go_sem, zeroV, z0, z1, z2, z3, z4]) rfl ⟨bel_drew (bel_set5 hbel (Nat.le_refl _) _ _ _ _ _), rfl⟩
      | ok V ms1 c1 =>
        dsimp only at hr
        unfold endP at hr
        go_wp2_with fail
        refine HC.out.mono ?_
        rintro e' w2 ⟨hg2, ⟨xk, xn, xt, xa, xl, xc, xb, xm, xe⟩, m1, rfl, hnew, hst2, hk1⟩
        simp only [VC.val]
        have hs2 := hg2.size
        have hbA : Below w2.heap.size w2 (w2.alloc (.cells #[.int .u8 xk, .int .i64 xn, .string xt, .slice xa xl xc, .slice xb xm xe] 26)) := bel_alloc (Below.refl _ _) _
        have HZ2 : Hid (BlkAt (w2.alloc (.cells #[.int .u8 xk, .int .i64 xn, .string xt, .slice xa xl xc, .slice xb xm xe] 26)) w.heap.size 26 zeroCs) := (HZ1.out.grown hg2 (by intro e; have e2 : w.heap.size = w.heap.size + 1 := Option.some.inj e; omega)).alloc _
        have HX2 : Hid (BlkAt (w2.alloc (.cells #[.int .u8 xk, .int .i64 xn, .string xt, .slice xa xl xc, .slice xb xm xe] 26)) w2.heap.size 26 #[.int .u8 xk, .int .i64 xn, .string xt, .slice xa xl xc, .slice xb xm xe]) := blkAt_new w2 _ _
        have HG2 : Hid (w.grownBy (w2.alloc (.cells #[.int .u8 xk, .int .i64 xn, .string xt, .slice xa xl xc, .slice xb xm xe] 26)) (some (w.heap.size + 1))) := grown_alloc (HG1.out.trans hg2) _
        have hst3 := hst2.keep hbA
        have HNew := Lib.hid hnew
        have hsA : (w2.alloc (.cells #[.int .u8 xk, .int .i64 xn, .string xt, .slice xa xl xc, .slice xb xm xe] 26)).heap.size = w2.heap.size + 1 := size_al _ _
        have HWA := Lib.hid (show ∀ k, k < w2.heap.size → (w2.alloc (.cells #[.int .u8 xk, .int .i64 xn, .string xt, .slice xa xl xc, .slice xb xm xe] 26)).heap[k]? = w2.heap[k]? from fun k hk => hbA.block k hk)
        clear hg2 hst2 hnew HC HZ1 HG1 hbA
        match ms1 with
        | [] => exact absurd hst3.nonil hk1
        | .err p er :: tl2 =>
          dsimp only [nextL] at hr
          subst hr
          have HN := Lib.hid (wnext_err hs' hst3 hk1 (Lib.hid rfl))
          clear hst3
          go_wp2_with fail
          generalize w2.alloc (.cells #[.int .u8 xk, .int .i64 xn, .string xt, .slice xa xl xc, .slice xb xm xe] 26) = wA at HN HZ2 HG2 hsA ⊢
          refine HN.out.mono ?_
          rintro e' w3 ⟨rfl, hg3, hb3⟩
          obtain ⟨z0, z1, z2, z3, z4, zf⟩ := blk5 (HZ2.out.grown hg3 (by intro e; have e2 : w.heap.size = w.heap.size + 1 := Option.some.inj e; omega))
          obtain ⟨hpc, hec, hrl⟩ := hb3.cells
          have hbel := below_of_grown (HG2.out.trans hg3) (by omega)
          go_wp2_with fail
          go_region
          go_wp2_with fail
          exact bodyPost_ret (v := .tuple #[zeroV, .int .i64 p, .int .i64 er]) (by simp [results, Tryz.results7, go_sem, zeroV, z0, z1, z2, z3, z4]) rfl ⟨bel_drew (bel_set5 hbel (Nat.le_refl _) _ _ _ _ _), rfl⟩
        | .tok m2 :: r2 =>
          dsimp only [nextL] at hr
          have HN := Lib.hid (wnext_tok hs' hst3 hk1 (Lib.hid rfl))
          clear hst3
          go_wp2_with fail
          generalize w2.alloc (.cells #[.int .u8 xk, .int .i64 xn, .string xt, .slice xa xl xc, .slice xb xm xe] 26) = wA at HN HZ2 HX2 HG2 hsA HWA ⊢
          refine HN.out.mono ?_
          rintro e' w3 ⟨rfl, hg3, hst4⟩
          have hs3 := hg3.size
          obtain ⟨z0, z1, z2, z3, z4, zf⟩ := blk5 (HZ2.out.grown hg3 (by intro e; have e2 : w.heap.size = w.heap.size + 1 := Option.some.inj e; omega))
          obtain ⟨x0, x1, x2, x3, x4, xf⟩ := blk5 (HX2.out.grown hg3 (by intro e; have e2 : w2.heap.size = w.heap.size + 1 := Option.some.inj e; omega))
          obtain ⟨d0, d1, d2, d3, -⟩ := wk10 hst4.blk
          have hrl := hst4.lt
          have hbel := below_of_grown (HG2.out.trans hg3) (by omega)
          by_cases h11 : m2.k = 11
          · rw [if_neg (by simpa using h11)] at hr
            subst hr
            have hb11 : (m2.k != 11) = false := by rw [h11]; rfl
            have HNW := Lib.hid (show NewV w.heap.size (((((w3.setCell ⟨w.heap.size, 0, none⟩ (.int .u8 xk)).setCell ⟨w.heap.size, 1, none⟩ (.int .i64 xn)).setCell ⟨w.heap.size, 2, none⟩ (.string xt)).setCell ⟨w.heap.size, 3, none⟩ (.slice xa xl xc)).setCell ⟨w.heap.size, 4, none⟩ (.slice xb xm xe)) V (VC.val ⟨xk, xn, xt, xa, xl, xc, xb, xm, xe⟩) from HNew.out.carry fun k hk hP => by
              have h1 := offB_none.1 hP
              exact ⟨offB_none.2 (by omega), (heap_set5 _ _ _ _ _ _ _ _ (by omega)).trans ((hg3.block k (by omega) (fun e => by have e2 : k = w.heap.size + 1 := Option.some.inj e; omega)).trans (HWA.out k hk))⟩)
            clear h11 hst4 hg3
            go_wp2_with fail
            exact bodyPost_ret (v := .tuple #[.agg #[.int .u8 xk, .int .i64 xn, .string xt, .slice xa xl xc, .slice xb xm xe], .int .i64 0, .int .i64 0]) (by simp [results, Tryz.results7, go_sem, z0, z1, z2, z3, z4]) rfl ⟨bel_set5 hbel (Nat.le_refl _) _ _ _ _ _, ⟨xk, xn, xt, xa, xl, xc, xb, xm, xe⟩, rfl, HNW.out⟩
          · rw [if_pos h11] at hr
            subst hr
            have hb11 : (m2.k != 11) = true := by rw [bne_iff_ne]; exact h11
            clear h11 hst4 hg3
            go_wp2_with fail
            go_region
            go_wp2_with fail
            exact bodyPost_ret (v := .tuple #[zeroV, .int .i64 m2.a, .int .i64 11]) (by simp [results, Tryz.results7, go_sem, zeroV, z0, z1, z2, z3, z4]) rfl ⟨bel_drew (bel_set5 hbel (Nat.le_refl _) _ _ _ _ _), rfl⟩
end Go.Proofs.YtfdecbfcddkoiaaGreatDoor
