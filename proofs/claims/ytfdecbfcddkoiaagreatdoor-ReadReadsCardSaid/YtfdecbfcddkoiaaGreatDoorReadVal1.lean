/-
  read.values.value: what is no list and no object; what may not be.
-/
import Derived.Test.YtfdecbfcddkoiaaGreatDoorReadSt
namespace Go.Proofs.YtfdecbfcddkoiaaGreatDoor
open Go.RowKit

def zeroV : Value := .agg #[.int .u8 0, .int .i64 0, .string ⟨#[]⟩, .slice none 0 0, .slice none 0 0]
/-- What reading a value leaves behind. -/
def VPost (R : PR JV) (s : ByteArray) (r : Nat) (d : Int) (w : World) (e : Ending) (w' : World) : Prop :=
  w.grownBy w' (some r) ∧ match R with
    | .bad p er => e = .returned (.tuple #[zeroV, .int .i64 er]) ∧ StBad w' r s p ∧ er ≠ 0
    | .ok V ms c => ∃ (x : VC) (m : Mk), e = .returned (.tuple #[x.val, .int .i64 0]) ∧ NewV w.heap.size w' V x.val ∧ StAt w' r s m ms c d ∧ m.k ≠ 11
theorem StAt.count {w : World} {r : Nat} {s : ByteArray} {m : Mk} {ms : List Lx} {c d : Int} (h : StAt w r s m ms c d) (c' : Int) : StAt (w.setCell ⟨r, 8, none⟩ (.int .i64 c')) r s m ms c' d := ⟨BlkAt.set h.1 8 _, h.2⟩
theorem StAt.depth {w : World} {r : Nat} {s : ByteArray} {m : Mk} {ms : List Lx} {c d : Int} (h : StAt w r s m ms c d) (d' : Int) : StAt (w.setCell ⟨r, 9, none⟩ (.int .i64 d')) r s m ms c d' := ⟨BlkAt.set h.1 9 _, h.2⟩
theorem StAt.ncell {w : World} {r : Nat} {s : ByteArray} {m : Mk} {ms : List Lx} {c d : Int} (h : StAt w r s m ms c d) : w.cell? ⟨r, 5, none⟩ = some (.int .i64 m.n) := h.1.cells.2.2.2.2.2.1
theorem StAt.tcell {w : World} {r : Nat} {s : ByteArray} {m : Mk} {ms : List Lx} {c d : Int} (h : StAt w r s m ms c d) : w.cell? ⟨r, 6, none⟩ = some (.string ⟨m.t.toArray⟩) := h.1.cells.2.2.2.2.2.2.1
theorem StAt.ccell {w : World} {r : Nat} {s : ByteArray} {m : Mk} {ms : List Lx} {c d : Int} (h : StAt w r s m ms c d) : w.cell? ⟨r, 8, none⟩ = some (.int .i64 c) := h.1.cells.2.2.2.2.2.2.2.2.1
theorem StAt.dcell {w : World} {r : Nat} {s : ByteArray} {m : Mk} {ms : List Lx} {c d : Int} (h : StAt w r s m ms c d) : w.cell? ⟨r, 9, none⟩ = some (.int .i64 d) := h.1.cells.2.2.2.2.2.2.2.2.2
theorem StAt.mkb {w : World} {r : Nat} {s : ByteArray} {m : Mk} {ms : List Lx} {c d : Int} (h : StAt w r s m ms c d) : MkB m := h.2.2.2
theorem StAt.free {w : World} {r : Nat} {s : ByteArray} {m : Mk} {ms : List Lx} {c d : Int} (h : StAt w r s m ms c d) : ∀ i, w.frozen? ⟨r, i, none⟩ = false := h.1.frees
theorem begV_no {m : Mk} (h : begV m = false) : (m.k == 1) = false ∧ (m.k == 3) = false ∧ (m.k == 7) = false ∧ (m.k == 8) = false ∧ (m.k == 9) = false ∧ (m.k == 10) = false := by
  simp only [begV, Bool.or_eq_false_iff] at h
  obtain ⟨⟨⟨⟨⟨a, b⟩, c⟩, d⟩, e⟩, f⟩ := h
  exact ⟨a, b, c, d, e, f⟩
set_option maxRecDepth 100000 in
set_option maxHeartbeats 2000000 in
theorem value_wrong {w : World} {r : Nat} {s : ByteArray} {m : Mk} {ms : List Lx} {c d : Int} (h : StAt w r s m ms c d) (hb : begV m = false) (v : Int) (hv : Hid (wrongE m 3 = v)) :
    Calls Tryz.prog 13 #[.pointer (some ⟨r, 0, none⟩)] w (VPost (.bad m.a v) s r d w) := by
  obtain ⟨e1, e2, e3, e4, e5, e6⟩ := begV_no hb
  have hk := h.kcell
  have hlt := h.lt
  have H := Lib.hid h
  have hne : v ≠ 0 := by rw [← hv.out]; exact wrongE_ne m
  have HW := Lib.hid (fun (W : World) (hc : W.cell? ⟨r, 2, none⟩ = some (.int .u8 m.k)) => wrong_any hc v hv)
  clear hb h
  go_enter Tryz.func13, Tryz.ntmps13
  go_wp2_with fail
  refine (HW.out _ (by rw [cell_al_lt _ _ _ _ hlt]; exact hk)).mono ?_
  rintro e w' ⟨rfl, rfl⟩
  go_wp2_with fail
  exact bodyPost_ret (v := .tuple #[zeroV, .int .i64 v]) (by simp [results, Tryz.results13, go_sem, zeroV]) rfl ⟨grown_alloc (World.grownBy.refl _ _) _, rfl, (H.out.keep (bel_alloc (Below.refl _ _) _)).bad, hne⟩
theorem beg_cases {m : Mk} (h : ¬ begV m = false) : m.k = 1 ∨ m.k = 3 ∨ m.k = 7 ∨ m.k = 8 ∨ m.k = 9 ∨ m.k = 10 := by
  simp only [begV, Bool.not_eq_false, Bool.or_eq_true, beq_iff_eq] at h
  omega
set_option maxRecDepth 100000 in
set_option maxHeartbeats 2000000 in
theorem value_much {w : World} {r : Nat} {s : ByteArray} {m : Mk} {ms : List Lx} {c : Nat} {d : Int} (h : StAt w r s m ms c d) (hb : ¬ begV m = false) (hc : 8192 ≤ c) :
    Calls Tryz.prog 13 #[.pointer (some ⟨r, 0, none⟩)] w (VPost (.bad m.a 5) s r d w) := by
  have hk := h.kcell
  have hcc := h.ccell
  have hlt := h.lt
  have H := Lib.hid h
  have hc' : (8192 : Int) ≤ (c : Int) := by omega
  have hcs := beg_cases hb
  clear hb h
  rcases hcs with e | e | e | e | e | e
  all_goals
    rw [e] at hk
    clear e
    go_enter Tryz.func13, Tryz.ntmps13
    go_wp2_with fail
    exact bodyPost_ret (v := .tuple #[zeroV, .int .i64 5]) (by simp [results, Tryz.results13, go_sem, zeroV]) rfl ⟨grown_alloc (World.grownBy.refl _ _) _, rfl, (H.out.keep (bel_alloc (Below.refl _ _) _)).bad, by decide⟩
set_option maxRecDepth 100000 in
set_option maxHeartbeats 2000000 in
theorem value_leaf {w : World} {r : Nat} {s : ByteArray} {m : Mk} {ms : List Lx} {c : Nat} {d : Int} (h : StAt w r s m ms c d) (hcs : m.k = 7 ∨ m.k = 8 ∨ m.k = 9 ∨ m.k = 10) (hc : c < 8192) :
    Calls Tryz.prog 13 #[.pointer (some ⟨r, 0, none⟩)] w (VPost (.ok (leafV m) ms (c + 1)) s r d w) := by
  have hk := h.kcell
  have hcc := h.ccell
  have hlt := h.lt
  have hn := h.ncell
  have ht := h.tcell
  have hf := h.free
  have H := Lib.hid h
  have hc' : ¬ (8192 : Int) ≤ (c : Int) := by omega
  clear h
  obtain ⟨n0, n1, n2⟩ := H.out.mkb
  have HL := Lib.hid (show ∀ k n t, leafV m = .mk k n t [] [] → 0 ≤ k → k ≤ 255 → -9223372036854775808 ≤ n → n ≤ 9223372036854775807 → t.size ≤ maxLen → NewV w.heap.size ((w.setCell ⟨r, 8, none⟩ (.int .i64 ((c : Int) + 1))).alloc (.cells #[.int .u8 k, .int .i64 n, .string t, .slice none 0 0, .slice none 0 0] 26)) (leafV m) (.agg #[.int .u8 k, .int .i64 n, .string t, .slice none 0 0, .slice none 0 0]) from
    fun k n t he k0 k1 n0 n1 ht => by rw [he]; exact valAt_leaf _ k n t k0 k1 n0 n1 ht)
  have HS : Hid (∀ v, StAt ((w.setCell ⟨r, 8, none⟩ (.int .i64 ((c : Int) + 1))).alloc (.cells v 26)) r s m ms ((c + 1 : Nat) : Int) d) := fun v => (H.out.count _).keep (bel_alloc (Below.refl _ _) _)
  have HG : Hid (∀ v, w.grownBy ((w.setCell ⟨r, 8, none⟩ (.int .i64 ((c : Int) + 1))).alloc (.cells v 26)) (some r)) := fun v => grown_alloc (grown_set (World.grownBy.refl _ _) _ _) _
  clear H
  rcases hcs with e | e | e | e
  · rw [e] at hk
    have HE : Hid (leafV m = .mk 1 1 ⟨#[]⟩ [] []) := by show _ = _; unfold leafV; rw [if_pos e]
    have h11 : m.k ≠ 11 := by omega
    clear e
    go_enter Tryz.func13, Tryz.ntmps13
    go_wp2_with fail
    exact bodyPost_ret (v := .tuple #[.agg #[.int .u8 1, .int .i64 1, .string ⟨#[]⟩, .slice none 0 0, .slice none 0 0], .int .i64 0]) (by simp [results, Tryz.results13, go_sem]) rfl ⟨HG.out _, ⟨1, 1, ⟨#[]⟩, none, 0, 0, none, 0, 0⟩, m, rfl, HL.out _ _ _ HE.out (by decide) (by decide) (by decide) (by decide) (by decide), HS.out _, h11⟩
  · rw [e] at hk
    have HE : Hid (leafV m = .mk 1 0 ⟨#[]⟩ [] []) := by show _ = _; unfold leafV; rw [if_neg (by omega), if_pos e]
    have h11 : m.k ≠ 11 := by omega
    clear e
    go_enter Tryz.func13, Tryz.ntmps13
    go_wp2_with fail
    exact bodyPost_ret (v := .tuple #[.agg #[.int .u8 1, .int .i64 0, .string ⟨#[]⟩, .slice none 0 0, .slice none 0 0], .int .i64 0]) (by simp [results, Tryz.results13, go_sem]) rfl ⟨HG.out _, ⟨1, 0, ⟨#[]⟩, none, 0, 0, none, 0, 0⟩, m, rfl, HL.out _ _ _ HE.out (by decide) (by decide) (by decide) (by decide) (by decide), HS.out _, h11⟩
  · rw [e] at hk
    have HE : Hid (leafV m = .mk 2 m.n ⟨#[]⟩ [] []) := by show _ = _; unfold leafV; rw [if_neg (by omega), if_neg (by omega), if_pos e]
    have h11 : m.k ≠ 11 := by omega
    clear e
    go_enter Tryz.func13, Tryz.ntmps13
    go_wp2_with fail
    exact bodyPost_ret (v := .tuple #[.agg #[.int .u8 2, .int .i64 m.n, .string ⟨#[]⟩, .slice none 0 0, .slice none 0 0], .int .i64 0]) (by simp [results, Tryz.results13, go_sem]) rfl ⟨HG.out _, ⟨2, m.n, ⟨#[]⟩, none, 0, 0, none, 0, 0⟩, m, rfl, HL.out _ _ _ HE.out (by decide) (by decide) n0 n1 (by decide), HS.out _, h11⟩
  · rw [e] at hk
    have HE : Hid (leafV m = .mk 3 0 ⟨m.t.toArray⟩ [] []) := by show _ = _; unfold leafV; rw [if_neg (by omega), if_neg (by omega), if_neg (by omega)]; rfl
    have h11 : m.k ≠ 11 := by omega
    clear e
    go_enter Tryz.func13, Tryz.ntmps13
    go_wp2_with fail
    exact bodyPost_ret (v := .tuple #[.agg #[.int .u8 3, .int .i64 0, .string ⟨m.t.toArray⟩, .slice none 0 0, .slice none 0 0], .int .i64 0]) (by simp [results, Tryz.results13, go_sem]) rfl ⟨HG.out _, ⟨3, 0, ⟨m.t.toArray⟩, none, 0, 0, none, 0, 0⟩, m, rfl, HL.out _ _ _ HE.out (by decide) (by decide) (by decide) (by decide) (by show m.t.length ≤ _; unfold maxLen; omega), HS.out _, h11⟩
set_option maxRecDepth 100000 in
set_option maxHeartbeats 2000000 in
theorem value_deep {w : World} {r : Nat} {s : ByteArray} {m : Mk} {ms : List Lx} {c : Nat} {d : Int} (h : StAt w r s m ms c d) (hcs : m.k = 1 ∨ m.k = 3) (hc : c < 8192) (hd : 12 ≤ d) :
    Calls Tryz.prog 13 #[.pointer (some ⟨r, 0, none⟩)] w (VPost (.bad m.a 8) s r d w) := by
  have hk := h.kcell
  have hcc := h.ccell
  have hdc := h.dcell
  have hlt := h.lt
  have hf := h.free
  have H := Lib.hid h
  have hc' : ¬ (8192 : Int) ≤ (c : Int) := by omega
  clear h
  rcases hcs with e | e
  all_goals
    rw [e] at hk
    clear e
    go_enter Tryz.func13, Tryz.ntmps13
    go_wp2_with fail
    exact bodyPost_ret (v := .tuple #[zeroV, .int .i64 8]) (by simp [results, Tryz.results13, go_sem, zeroV]) rfl ⟨grown_alloc (grown_set (World.grownBy.refl _ _) _ _) _, rfl, ((H.out.count _).keep (bel_alloc (Below.refl _ _) _)).bad, by decide⟩
end Go.Proofs.YtfdecbfcddkoiaaGreatDoor
