/-
  legateref09.walk.value: what is no list and no object; what may not be.
-/
import Derived.Test.YtfdecbfcddkoiaaGreatDoorWkSt
import Derived.Test.YtfdecbfcddkoiaaGreatDoorWkIns
namespace Go.Proofs.YtfdecbfcddkoiaaGreatDoor
open Go.RowKit

/-- What the walk over a value leaves behind. -/
def WPost (R : PR JV) (s : ByteArray) (r : Nat) (w : World) (e : Ending) (w' : World) : Prop :=
  w.grownBy w' (some r) ∧ match R with
    | .bad p er => e = .returned (.tuple #[zeroV, .bool false]) ∧ WBad w' r s p er
    | .ok V ms c => ∃ (x : VC) (m : Mk), e = .returned (.tuple #[x.val, .bool true]) ∧ NewV w.heap.size w' V x.val ∧ WSt w' r s m ms c ∧ m.k ≠ 11
theorem WSt.cells {w : World} {r : Nat} {s : ByteArray} {m : Mk} {ms : List Lx} {c : Int} (h : WSt w r s m ms c) : w.cell? ⟨r, 1, none⟩ = some (.int .u8 m.k) ∧ w.cell? ⟨r, 4, none⟩ = some (.int .i64 m.n) ∧ w.cell? ⟨r, 5, none⟩ = some (.string ⟨m.t.toArray⟩) ∧ w.cell? ⟨r, 7, none⟩ = some (.int .i64 c) ∧ ∀ i, w.frozen? ⟨r, i, none⟩ = false := by
  obtain ⟨c0, c1, c2, c3, c4, c5, c6, c7, c8, c9, cf⟩ := wk10 h.blk
  exact ⟨c1, c4, c5, c7, cf⟩
set_option maxRecDepth 100000 in
set_option maxHeartbeats 4000000 in
theorem wvalue_wrong {w : World} {r : Nat} {s : ByteArray} {m : Mk} {ms : List Lx} {c : Int} (deep : Int) (h : WSt w r s m ms c) (hb : begV m = false) (v : Int) (hv : Hid (wrongE m 3 = v)) :
    Calls Tryz.prog 15 #[.pointer (some ⟨r, 0, none⟩), .int .i64 deep] w (WPost (.bad m.a v) s r w) := by
  obtain ⟨e1, e2, e3, e4, e5, e6⟩ := begV_no hb
  have g1 : m.k ≠ 1 := by simpa using e1
  have g2 : m.k ≠ 3 := by simpa using e2
  have f1 : (m.k != 1) = true := by rw [bne, e1]; rfl
  have f2 : (m.k != 3) = true := by rw [bne, e2]; rfl
  have hlt := h.lt
  obtain ⟨c1, c4, c5, c7, cf⟩ := h.cells
  have hcs : m.k < 7 ∨ (¬ m.k < 7 ∧ 10 < m.k) := by
    have h3 : m.k ≠ 7 := by simpa using e3
    have h4 : m.k ≠ 8 := by simpa using e4
    have h5 : m.k ≠ 9 := by simpa using e5
    have h6 : m.k ≠ 10 := by simpa using e6
    omega
  have hZ : BlkAt (w.alloc (.cells zeroCs 26)) w.heap.size 26 zeroCs := blkAt_new w zeroCs _
  have HZ := Lib.hid hZ
  have HB := Lib.hid (wbad_any (h.keep (bel_alloc (Below.refl w.heap.size w) (.cells zeroCs 26))) 3 v hv)
  have HG := Lib.hid (grown_alloc (World.grownBy.refl w (some r)) (.cells zeroCs 26))
  clear hb h hZ hv e3 e4 e5 e6
  rcases hcs with q1 | ⟨q1, q2⟩
  all_goals
    go_enter Tryz.func15, Tryz.ntmps15
    go_wp2_with fail
    refine HB.out.mono ?_
    rintro e w1 ⟨rfl, hg1, hbad⟩
    obtain ⟨z0, z1, z2, z3, z4, zf⟩ := blk5 (HZ.out.grown hg1 (by intro e; cases e; omega))
    have hs1 := hg1.size
    rw [size_al] at hs1
    have hg := HG.out.trans hg1
    simp only [zeroV]
    go_wp2_with fail
    exact bodyPost_ret (v := .tuple #[zeroV, .bool false]) (by simp [results, Tryz.results15, go_sem, zeroV, z0, z1, z2, z3, z4]) rfl ⟨grown_set5 hg (Nat.le_refl _) _ _ _ _ _, rfl, hbad.same (heap_set5 _ _ _ _ _ _ _ _ (by omega))⟩
set_option maxRecDepth 100000 in
set_option maxHeartbeats 4000000 in
theorem wvalue_much {w : World} {r : Nat} {s : ByteArray} {m : Mk} {ms : List Lx} {c : Nat} (deep : Int) (h : WSt w r s m ms c) (hb : ¬ begV m = false) (hc : 8192 ≤ c) (hc2 : c ≤ 8192) :
    Calls Tryz.prog 15 #[.pointer (some ⟨r, 0, none⟩), .int .i64 deep] w (WPost (.bad m.a 5) s r w) := by
  have hlt := h.lt
  obtain ⟨c1, c4, c5, c7, cf⟩ := h.cells
  have hcs := beg_cases hb
  have hm11 : Hid (wrongE m 5 = 5) := by
    show _ = _
    unfold wrongE
    rw [if_neg (by omega)]
  have hc' : (8192 : Int) < (c : Int) + 1 := by omega
  have HS := Lib.hid (h.count ((c : Int) + 1))
  have hB : Below w.heap.size w (w.alloc (.cells zeroCs 26)) := bel_alloc (Below.refl _ _) _
  have HS2 : Hid (WSt ((w.setCell ⟨r, 7, none⟩ (.int .i64 ((c : Int) + 1))).alloc (.cells zeroCs 26)) r s m ms ((c : Int) + 1)) := HS.out.keep (bel_alloc (Below.refl _ _) _)
  have HB := Lib.hid (wbad_any HS2.out 5 5 hm11)
  have HZ : Hid (BlkAt ((w.setCell ⟨r, 7, none⟩ (.int .i64 ((c : Int) + 1))).alloc (.cells zeroCs 26)) w.heap.size 26 zeroCs) := by
    have := blkAt_new (w.setCell ⟨r, 7, none⟩ (.int .i64 ((c : Int) + 1))) zeroCs 26
    rwa [show (w.setCell ⟨r, 7, none⟩ (.int .i64 ((c : Int) + 1))).heap.size = w.heap.size from by show (w.heap.modify _ _).size = _; rw [Array.size_modify]] at this
  have HG := Lib.hid (grown_alloc (grown_set (World.grownBy.refl w (some r)) 7 (.int .i64 ((c : Int) + 1))) (.cells zeroCs 26))
  clear hb h hm11 hB
  rcases hcs with e | e | e | e | e | e
  all_goals
    rw [e] at c1
    go_enter Tryz.func15, Tryz.ntmps15
    go_wp2_with fail
    refine HB.out.mono ?_
    rintro e w1 ⟨rfl, hg1, hbad⟩
    obtain ⟨z0, z1, z2, z3, z4, zf⟩ := blk5 (HZ.out.grown hg1 (by intro e; cases e; omega))
    have hs1 := hg1.size
    rw [size_al] at hs1
    have hg := HG.out.trans hg1
    simp only [zeroV]
    go_wp2_with fail
    exact bodyPost_ret (v := .tuple #[zeroV, .bool false]) (by simp [results, Tryz.results15, go_sem, zeroV, z0, z1, z2, z3, z4]) rfl ⟨grown_set5 hg (Nat.le_refl _) _ _ _ _ _, rfl, hbad.same (heap_set5 _ _ _ _ _ _ _ _ (by omega))⟩
set_option maxRecDepth 100000 in
set_option maxHeartbeats 2000000 in
theorem wvalue_leaf {w : World} {r : Nat} {s : ByteArray} {m : Mk} {ms : List Lx} {c : Nat} (deep : Int) (h : WSt w r s m ms c) (hcs : m.k = 7 ∨ m.k = 8 ∨ m.k = 9 ∨ m.k = 10) (hc : c < 8192) :
    Calls Tryz.prog 15 #[.pointer (some ⟨r, 0, none⟩), .int .i64 deep] w (WPost (.ok (leafV m) ms (c + 1)) s r w) := by
  obtain ⟨hk, hn, ht, hcc, hf⟩ := h.cells
  have hlt := h.lt
  have H := Lib.hid h
  have hc' : ¬ (8192 : Int) < (c : Int) + 1 := by omega
  clear h
  obtain ⟨n0, n1, n2⟩ := H.out.b
  have HL := Lib.hid (show ∀ k n t, leafV m = .mk k n t [] [] → 0 ≤ k → k ≤ 255 → -9223372036854775808 ≤ n → n ≤ 9223372036854775807 → t.size ≤ maxLen → NewV w.heap.size ((w.setCell ⟨r, 7, none⟩ (.int .i64 ((c : Int) + 1))).alloc (.cells #[.int .u8 k, .int .i64 n, .string t, .slice none 0 0, .slice none 0 0] 26)) (leafV m) (.agg #[.int .u8 k, .int .i64 n, .string t, .slice none 0 0, .slice none 0 0]) from
    fun k n t he k0 k1 n0 n1 ht => by rw [he]; exact valAt_leaf _ k n t k0 k1 n0 n1 ht)
  have HS : Hid (∀ v, WSt ((w.setCell ⟨r, 7, none⟩ (.int .i64 ((c : Int) + 1))).alloc (.cells v 26)) r s m ms ((c + 1 : Nat) : Int)) := fun v => (H.out.count _).keep (bel_alloc (Below.refl _ _) _)
  have HG : Hid (∀ v, w.grownBy ((w.setCell ⟨r, 7, none⟩ (.int .i64 ((c : Int) + 1))).alloc (.cells v 26)) (some r)) := fun v => grown_alloc (grown_set (World.grownBy.refl _ _) _ _) _
  clear H
  rcases hcs with e | e | e | e
  · rw [e] at hk
    have HE : Hid (leafV m = .mk 1 1 ⟨#[]⟩ [] []) := by show _ = _; unfold leafV; rw [if_pos e]
    have h11 : m.k ≠ 11 := by omega
    clear e
    go_enter Tryz.func15, Tryz.ntmps15
    go_wp2_with fail
    exact bodyPost_ret (v := .tuple #[.agg #[.int .u8 1, .int .i64 1, .string ⟨#[]⟩, .slice none 0 0, .slice none 0 0], .bool true]) (by simp [results, Tryz.results15, go_sem]) rfl ⟨HG.out _, ⟨1, 1, ⟨#[]⟩, none, 0, 0, none, 0, 0⟩, m, rfl, HL.out _ _ _ HE.out (by decide) (by decide) (by decide) (by decide) (by decide), HS.out _, h11⟩
  · rw [e] at hk
    have HE : Hid (leafV m = .mk 1 0 ⟨#[]⟩ [] []) := by show _ = _; unfold leafV; rw [if_neg (by omega), if_pos e]
    have h11 : m.k ≠ 11 := by omega
    clear e
    go_enter Tryz.func15, Tryz.ntmps15
    go_wp2_with fail
    exact bodyPost_ret (v := .tuple #[.agg #[.int .u8 1, .int .i64 0, .string ⟨#[]⟩, .slice none 0 0, .slice none 0 0], .bool true]) (by simp [results, Tryz.results15, go_sem]) rfl ⟨HG.out _, ⟨1, 0, ⟨#[]⟩, none, 0, 0, none, 0, 0⟩, m, rfl, HL.out _ _ _ HE.out (by decide) (by decide) (by decide) (by decide) (by decide), HS.out _, h11⟩
  · rw [e] at hk
    have HE : Hid (leafV m = .mk 2 m.n ⟨#[]⟩ [] []) := by show _ = _; unfold leafV; rw [if_neg (by omega), if_neg (by omega), if_pos e]
    have h11 : m.k ≠ 11 := by omega
    clear e
    go_enter Tryz.func15, Tryz.ntmps15
    go_wp2_with fail
    exact bodyPost_ret (v := .tuple #[.agg #[.int .u8 2, .int .i64 m.n, .string ⟨#[]⟩, .slice none 0 0, .slice none 0 0], .bool true]) (by simp [results, Tryz.results15, go_sem]) rfl ⟨HG.out _, ⟨2, m.n, ⟨#[]⟩, none, 0, 0, none, 0, 0⟩, m, rfl, HL.out _ _ _ HE.out (by decide) (by decide) n0 n1 (by decide), HS.out _, h11⟩
  · rw [e] at hk
    have HE : Hid (leafV m = .mk 3 0 ⟨m.t.toArray⟩ [] []) := by show _ = _; unfold leafV; rw [if_neg (by omega), if_neg (by omega), if_neg (by omega)]; rfl
    have h11 : m.k ≠ 11 := by omega
    clear e
    go_enter Tryz.func15, Tryz.ntmps15
    go_wp2_with fail
    exact bodyPost_ret (v := .tuple #[.agg #[.int .u8 3, .int .i64 0, .string ⟨m.t.toArray⟩, .slice none 0 0, .slice none 0 0], .bool true]) (by simp [results, Tryz.results15, go_sem]) rfl ⟨HG.out _, ⟨3, 0, ⟨m.t.toArray⟩, none, 0, 0, none, 0, 0⟩, m, rfl, HL.out _ _ _ HE.out (by decide) (by decide) (by decide) (by decide) (by show m.t.length ≤ _; unfold maxLen; omega), HS.out _, h11⟩
set_option maxRecDepth 100000 in
set_option maxHeartbeats 4000000 in
theorem wvalue_deep {w : World} {r : Nat} {s : ByteArray} {m : Mk} {ms : List Lx} {c : Nat} (deep : Int) (h : WSt w r s m ms c) (hcs : m.k = 1 ∨ m.k = 3) (hc : c < 8192) (hd : 12 ≤ deep) :
    Calls Tryz.prog 15 #[.pointer (some ⟨r, 0, none⟩), .int .i64 deep] w (WPost (.bad m.a 8) s r w) := by
  have hlt := h.lt
  obtain ⟨c1, c4, c5, c7, cf⟩ := h.cells
  have hm11 : Hid (wrongE m 8 = 8) := by
    show _ = _
    unfold wrongE
    rw [if_neg (by omega)]
  have hc' : ¬ (8192 : Int) < (c : Int) + 1 := by omega
  have HS := Lib.hid (h.count ((c : Int) + 1))
  have HS2 : Hid (WSt ((w.setCell ⟨r, 7, none⟩ (.int .i64 ((c : Int) + 1))).alloc (.cells zeroCs 26)) r s m ms ((c : Int) + 1)) := HS.out.keep (bel_alloc (Below.refl _ _) _)
  have HB := Lib.hid (wbad_any HS2.out 8 8 hm11)
  have HZ : Hid (BlkAt ((w.setCell ⟨r, 7, none⟩ (.int .i64 ((c : Int) + 1))).alloc (.cells zeroCs 26)) w.heap.size 26 zeroCs) := by
    have := blkAt_new (w.setCell ⟨r, 7, none⟩ (.int .i64 ((c : Int) + 1))) zeroCs 26
    rwa [show (w.setCell ⟨r, 7, none⟩ (.int .i64 ((c : Int) + 1))).heap.size = w.heap.size from by show (w.heap.modify _ _).size = _; rw [Array.size_modify]] at this
  have HG := Lib.hid (grown_alloc (grown_set (World.grownBy.refl w (some r)) 7 (.int .i64 ((c : Int) + 1))) (.cells zeroCs 26))
  clear h hm11
  rcases hcs with e | e
  all_goals
    rw [e] at c1
    go_enter Tryz.func15, Tryz.ntmps15
    go_wp2_with fail
    refine HB.out.mono ?_
    rintro e w1 ⟨rfl, hg1, hbad⟩
    obtain ⟨z0, z1, z2, z3, z4, zf⟩ := blk5 (HZ.out.grown hg1 (by intro e; cases e; omega))
    have hs1 := hg1.size
    rw [size_al] at hs1
    have hg := HG.out.trans hg1
    simp only [zeroV]
    go_wp2_with fail
    exact bodyPost_ret (v := .tuple #[zeroV, .bool false]) (by simp [results, Tryz.results15, go_sem, zeroV, z0, z1, z2, z3, z4]) rfl ⟨grown_set5 hg (Nat.le_refl _) _ _ _ _ _, rfl, hbad.same (heap_set5 _ _ _ _ _ _ _ _ (by omega))⟩
end Go.Proofs.YtfdecbfcddkoiaaGreatDoor
