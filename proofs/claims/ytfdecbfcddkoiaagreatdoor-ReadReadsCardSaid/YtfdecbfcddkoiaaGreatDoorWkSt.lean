/-
  legateref09: the walk over the marks of a text, by the document's words: where it stands; the next mark; a mark that is wrong.
-/
import Derived.Test.YtfdecbfcddkoiaaGreatDoorReadVal1
import Derived.Test.YtfdecbfcddkoiaaGreatDoorReadList
import Derived.Test.YtfdecbfcddkoiaaGreatDoorReadP
import Derived.Test.YtfdecbfcddkoiaaGreatDoorRefNext
import Derived.Deep.RegionHeld3
import Derived.StillTailTactics
namespace Go.Proofs.YtfdecbfcddkoiaaGreatDoor
open Go.RowKit

/-- The walk's block. -/
def WkAt (w : World) (r : Nat) (s : ByteArray) (m : Mk) (at' n p e : Int) : Prop :=
  BlkAt w r 52 #[.string s, .int .u8 m.k, .int .i64 m.a, .int .i64 m.z, .int .i64 m.n, .string ⟨m.t.toArray⟩, .int .i64 at', .int .i64 n, .int .i64 p, .int .i64 e]
/-- The walk stands at a mark; behind it stand these. -/
structure WSt (w : World) (r : Nat) (s : ByteArray) (m : Mk) (ms : List Lx) (c : Int) : Prop where
  blk : WkAt w r s m m.z c 0 0
  z : m.z ≤ s.size
  ms : ms = if m.k = 11 then [] else lexes (s.data.toList.drop m.z) m.z
  b : MkB m
/-- The walk has stopped. -/
def WBad (w : World) (r : Nat) (s : ByteArray) (p : Nat) (e : Int) : Prop := ∃ (m : Mk) (at' n : Int), WkAt w r s m at' n p e
theorem wk10 {w : World} {r : Nat} {T : TypeId} {v0 v1 v2 v3 v4 v5 v6 v7 v8 v9 : Value} (h : BlkAt w r T #[v0, v1, v2, v3, v4, v5, v6, v7, v8, v9]) :
    w.cell? ⟨r, 0, none⟩ = some v0 ∧ w.cell? ⟨r, 1, none⟩ = some v1 ∧ w.cell? ⟨r, 2, none⟩ = some v2 ∧ w.cell? ⟨r, 3, none⟩ = some v3 ∧ w.cell? ⟨r, 4, none⟩ = some v4 ∧ w.cell? ⟨r, 5, none⟩ = some v5 ∧ w.cell? ⟨r, 6, none⟩ = some v6 ∧ w.cell? ⟨r, 7, none⟩ = some v7 ∧ w.cell? ⟨r, 8, none⟩ = some v8 ∧ w.cell? ⟨r, 9, none⟩ = some v9 ∧ ∀ i, w.frozen? ⟨r, i, none⟩ = false :=
  ⟨h.cell 0, h.cell 1, h.cell 2, h.cell 3, h.cell 4, h.cell 5, h.cell 6, h.cell 7, h.cell 8, h.cell 9, h.free⟩
theorem WSt.lt {w : World} {r : Nat} {s : ByteArray} {m : Mk} {ms : List Lx} {c : Int} (h : WSt w r s m ms c) : r < w.heap.size := BlkAt.lt h.blk
theorem WSt.same {w w' : World} {r : Nat} {s : ByteArray} {m : Mk} {ms : List Lx} {c : Int} (h : WSt w r s m ms c) (hb : w'.heap[r]? = w.heap[r]?) : WSt w' r s m ms c := ⟨by have := h.blk; unfold WkAt BlkAt at this ⊢; rw [hb]; exact this, h.z, h.ms, h.b⟩
theorem WSt.keep {w w' : World} {r : Nat} {s : ByteArray} {m : Mk} {ms : List Lx} {c : Int} (h : WSt w r s m ms c) (hb : Below w.heap.size w w') : WSt w' r s m ms c := h.same (hb.block r h.lt)
theorem WBad.same {w w' : World} {r : Nat} {s : ByteArray} {p : Nat} {e : Int} (h : WBad w r s p e) (hb : w'.heap[r]? = w.heap[r]?) : WBad w' r s p e := by
  obtain ⟨m, a, n, h⟩ := h
  exact ⟨m, a, n, by unfold WkAt BlkAt at h ⊢; rw [hb]; exact h⟩
theorem WSt.nonil {w : World} {r : Nat} {s : ByteArray} {m : Mk} {c : Int} (h : WSt w r s m [] c) : m.k = 11 := by
  apply Classical.byContradiction
  intro hk
  have h3 := h.ms
  rw [if_neg hk] at h3
  exact lexes_ne _ _ h3.symm
theorem WSt.kcell {w : World} {r : Nat} {s : ByteArray} {m : Mk} {ms : List Lx} {c : Int} (h : WSt w r s m ms c) : w.cell? ⟨r, 1, none⟩ = some (.int .u8 m.k) := (wk10 h.blk).2.1
theorem WSt.count {w : World} {r : Nat} {s : ByteArray} {m : Mk} {ms : List Lx} {c : Int} (h : WSt w r s m ms c) (c' : Int) : WSt (w.setCell ⟨r, 7, none⟩ (.int .i64 c')) r s m ms c' := ⟨BlkAt.set h.blk 7 _, h.z, h.ms, h.b⟩
theorem wk_mark {w5 : World} {r : Nat} {s : ByteArray} {m : Mk} {c : Int} (HK : WkAt w5 r s m m.z c 0 0) (m' : Mk) : WkAt ((((((w5.setCell ⟨r, 1, none⟩ (.int .u8 m'.k)).setCell ⟨r, 2, none⟩ (.int .i64 m'.a)).setCell ⟨r, 3, none⟩ (.int .i64 m'.z)).setCell ⟨r, 4, none⟩ (.int .i64 m'.n)).setCell ⟨r, 5, none⟩ (.string ⟨m'.t.toArray⟩)).setCell ⟨r, 6, none⟩ (.int .i64 m'.z)) r s m' m'.z c 0 0 := by
  have k1 : BlkAt (w5.setCell ⟨r, 1, none⟩ (.int .u8 m'.k)) r 52 #[.string s, .int .u8 m'.k, .int .i64 m.a, .int .i64 m.z, .int .i64 m.n, .string ⟨m.t.toArray⟩, .int .i64 m.z, .int .i64 c, .int .i64 0, .int .i64 0] := BlkAt.set HK 1 _
  have k2 : BlkAt ((w5.setCell ⟨r, 1, none⟩ (.int .u8 m'.k)).setCell ⟨r, 2, none⟩ (.int .i64 m'.a)) r 52 #[.string s, .int .u8 m'.k, .int .i64 m'.a, .int .i64 m.z, .int .i64 m.n, .string ⟨m.t.toArray⟩, .int .i64 m.z, .int .i64 c, .int .i64 0, .int .i64 0] := BlkAt.set k1 2 _
  have k3 : BlkAt (((w5.setCell ⟨r, 1, none⟩ (.int .u8 m'.k)).setCell ⟨r, 2, none⟩ (.int .i64 m'.a)).setCell ⟨r, 3, none⟩ (.int .i64 m'.z)) r 52 #[.string s, .int .u8 m'.k, .int .i64 m'.a, .int .i64 m'.z, .int .i64 m.n, .string ⟨m.t.toArray⟩, .int .i64 m.z, .int .i64 c, .int .i64 0, .int .i64 0] := BlkAt.set k2 3 _
  have k4 : BlkAt ((((w5.setCell ⟨r, 1, none⟩ (.int .u8 m'.k)).setCell ⟨r, 2, none⟩ (.int .i64 m'.a)).setCell ⟨r, 3, none⟩ (.int .i64 m'.z)).setCell ⟨r, 4, none⟩ (.int .i64 m'.n)) r 52 #[.string s, .int .u8 m'.k, .int .i64 m'.a, .int .i64 m'.z, .int .i64 m'.n, .string ⟨m.t.toArray⟩, .int .i64 m.z, .int .i64 c, .int .i64 0, .int .i64 0] := BlkAt.set k3 4 _
  have k5 : BlkAt (((((w5.setCell ⟨r, 1, none⟩ (.int .u8 m'.k)).setCell ⟨r, 2, none⟩ (.int .i64 m'.a)).setCell ⟨r, 3, none⟩ (.int .i64 m'.z)).setCell ⟨r, 4, none⟩ (.int .i64 m'.n)).setCell ⟨r, 5, none⟩ (.string ⟨m'.t.toArray⟩)) r 52 #[.string s, .int .u8 m'.k, .int .i64 m'.a, .int .i64 m'.z, .int .i64 m'.n, .string ⟨m'.t.toArray⟩, .int .i64 m.z, .int .i64 c, .int .i64 0, .int .i64 0] := BlkAt.set k4 5 _
  have k6 : BlkAt ((((((w5.setCell ⟨r, 1, none⟩ (.int .u8 m'.k)).setCell ⟨r, 2, none⟩ (.int .i64 m'.a)).setCell ⟨r, 3, none⟩ (.int .i64 m'.z)).setCell ⟨r, 4, none⟩ (.int .i64 m'.n)).setCell ⟨r, 5, none⟩ (.string ⟨m'.t.toArray⟩)).setCell ⟨r, 6, none⟩ (.int .i64 m'.z)) r 52 #[.string s, .int .u8 m'.k, .int .i64 m'.a, .int .i64 m'.z, .int .i64 m'.n, .string ⟨m'.t.toArray⟩, .int .i64 m'.z, .int .i64 c, .int .i64 0, .int .i64 0] := BlkAt.set k5 6 _
  exact k6
theorem WkAt.drew {w : World} {r : Nat} {s : ByteArray} {m : Mk} {a n p e : Int} (h : WkAt w r s m a n p e) : WkAt w.drew r s m a n p e := h
/-- What is next, from where the walk stands. -/
theorem WSt.next {w : World} {r : Nat} {s : ByteArray} {m : Mk} {ms : List Lx} {c : Int} (h : WSt w r s m ms c) (hk : m.k ≠ 11) : (∃ p e, ms = [.err p e] ∧ e ≠ 0 ∧ m.z + blanks (s.data.toList.drop m.z) = p ∧ nextM s.data.toList m.z = (⟨0, 0, 0, 0, []⟩, e)) ∨ (∃ m' ms', ms = .tok m' :: ms' ∧ nextM s.data.toList m.z = (m', 0) ∧ m'.z ≤ s.size ∧ (ms' = if m'.k = 11 then [] else lexes (s.data.toList.drop m'.z) m'.z) ∧ MkB m') := by
  have h3 := h.ms
  rw [if_neg hk] at h3
  obtain ⟨m', er, hn⟩ : ∃ m' er, nextM s.data.toList m.z = (m', er) := ⟨_, _, rfl⟩
  by_cases he : er = 0
  · subst he
    rw [lexes_tok _ _ _ hn] at h3
    obtain ⟨-, -, -, k4, -⟩ := nextM_ok (by rw [size_len]; exact h.z) hn
    rw [size_len] at k4
    exact .inr ⟨m', _, h3, hn, k4, rfl, nextM_b hn⟩
  · rw [lexes_bad _ _ _ _ hn he] at h3
    have hm' := nextM_zero hn he
    subst hm'
    exact .inl ⟨_, er, h3, he, rfl, hn⟩
theorem grown_drawn {w w' : World} {row : Option Nat} (h : w.grownBy w' row) : w.grownBy w'.drew row := ⟨h.os, h.tape, h.output, h.size, h.block⟩
set_option maxRecDepth 100000 in
set_option maxHeartbeats 4000000 in
theorem wbad_any {w : World} {r : Nat} {s : ByteArray} {m : Mk} {ms : List Lx} {c : Int} (h : WSt w r s m ms c) (e v : Int) (hv : Hid (wrongE m e = v)) :
    Calls Tryz.prog 31 #[.pointer (some ⟨r, 0, none⟩), .int .i64 e] w fun e' w' => e' = .returned (.tuple #[zeroV, .bool false]) ∧ w.grownBy w' (some r) ∧ WBad w' r s m.a v := by
  have hlt := h.lt
  obtain ⟨c0, c1, c2, c3, c4, c5, c6, c7, c8, c9, cf⟩ := wk10 h.blk
  have HK := Lib.hid h.blk
  have hne : w.heap.size ≠ r := by omega
  unfold wrongE at hv
  by_cases hk : m.k = 11
  · have hkb : (m.k == 11) = true := by rw [hk]; rfl
    have he : v = 4 := by have := hv.out; rw [if_pos hk] at this; exact this.symm
    subst he
    clear hv h
    go_enter Tryz.func31, Tryz.ntmps31
    go_wp2_with fail
    exact bodyPost_ret (v := .tuple #[zeroV, .bool false]) (by simp [results, Tryz.results31, go_sem, zeroV]) rfl ⟨rfl, grown_alloc (grown_set (grown_set (World.grownBy.refl _ _) _ _) _ _) _, m, m.z, c, ((BlkAt.set HK.out 8 _).set 9 _).alloc _⟩
  · have hkb : (m.k == 11) = false := beq_eq_false_iff_ne.2 hk
    have he : e = v := by have := hv.out; rw [if_neg hk] at this; exact this
    subst he
    clear hv h hk
    go_enter Tryz.func31, Tryz.ntmps31
    go_wp2_with fail
    exact bodyPost_ret (v := .tuple #[zeroV, .bool false]) (by simp [results, Tryz.results31, go_sem, zeroV]) rfl ⟨rfl, grown_alloc (grown_set (grown_set (World.grownBy.refl _ _) _ _) _ _) _, m, m.z, c, ((BlkAt.set HK.out 8 _).set 9 _).alloc _⟩
set_option maxRecDepth 100000 in
set_option maxHeartbeats 4000000 in
theorem wnext_err {w : World} {r : Nat} {s : ByteArray} {m : Mk} {ms : List Lx} {c : Int} (hs : s.size ≤ 65536) (h : WSt w r s m ms c) (hk : m.k ≠ 11) {p : Nat} {e : Int} {tl : List Lx} (hms : Hid (ms = .err p e :: tl)) :
    Calls Tryz.prog 14 #[.pointer (some ⟨r, 0, none⟩)] w fun e' w' => e' = .returned (.bool false) ∧ w.grownBy w' (some r) ∧ WBad w' r s p e := by
  obtain ⟨p', e', h1, hne, hp, hn⟩ | ⟨m', ms', h1, -⟩ := h.next hk
  · rw [hms.out] at h1
    simp only [List.cons.injEq, Lx.err.injEq] at h1
    obtain ⟨⟨rfl, rfl⟩, -⟩ := h1
    obtain ⟨c0, c1, c2, c3, c4, c5, c6, c7, c8, c9, cf⟩ := wk10 h.blk
    have hlt := h.lt
    have hmz := h.z
    have HN := Lib.hid (fun W => refNext7_in s m.z W (by omega) h.z 0 0 0 0 ⟨#[]⟩ e (Lib.hid (show resV _ = _ by rw [hn]; rfl)))
    have HB := Lib.hid (fun W => behind_any s m.z W (by omega) h.z p (Lib.hid hp))
    have heb : (e != 0) = true := by rw [bne_iff_ne]; exact hne
    have H := Lib.hid h.blk
    clear h hp hn hms
    go_enter Tryz.func14, Tryz.ntmps14
    go_wp2_with fail
    go_region_held3 (fun w' => Below w.heap.size w w' ∧ w'.cell? ⟨r, 0, none⟩ = some (.string s) ∧ w'.cell? ⟨r, 6, none⟩ = some (.int .i64 m.z))
      ((refine (fun h => ⟨h, cell_keep h c0, cell_keep h c6⟩ : Below w.heap.size w _ → _) ?_; go_split_ands; (repeat (first | exact Below.refl _ _ | assumption | refine bel_drew ?_ | refine bel_alloc ?_ _ | refine bel_set ?_ (Nat.le_refl _) _ | refine below_more ?_ (by assumption)))))
      ((go_at_call 29; refine (HN.out _).mono ?_; rintro e1 w4 ⟨rfl, hb3⟩; obtain ⟨hc3, hf3⟩ := bcell hb3; have hsz3 := hb3.size))
    · have hb5 := bel_alloc (⟨hb3.os, hb3.tape, hb3.output, hb3.size, hb3.block⟩ : Below w.heap.size w w4) (.cells #[.int .u8 0, .int .i64 0, .int .i64 0, .int .i64 0, .string ⟨#[]⟩] 50)
      have HM : Hid (BlkAt (w4.alloc (.cells #[.int .u8 0, .int .i64 0, .int .i64 0, .int .i64 0, .string ⟨#[]⟩] 50)) w4.heap.size 50 #[.int .u8 0, .int .i64 0, .int .i64 0, .int .i64 0, .string ⟨#[]⟩]) := blkAt_new w4 _ _
      have hbr : w4.heap.size ≠ r := by have h7 : w.heap.size ≤ w4.heap.size := hsz3; omega
      obtain ⟨w5, hw5⟩ : ∃ x, w4.alloc (.cells #[.int .u8 0, .int .i64 0, .int .i64 0, .int .i64 0, .string ⟨#[]⟩] 50) = x := ⟨_, rfl⟩
      rw [hw5] at HM hb5 ⊢
      obtain ⟨b, hbe⟩ : ∃ x, w4.heap.size = x := ⟨_, rfl⟩
      rw [hbe] at HM hbr ⊢
      clear hw5 hbe hb3 hc3 hf3 hsz3
      have HK : Hid (WkAt w5 r s m m.z c 0 0) := BlkAt.keep H.out hb5
      obtain ⟨d0, d1, d2, d3, d4, d5, d6, d7, d8, d9, df⟩ := wk10 HK.out
      have hrl : r < w5.heap.size := BlkAt.lt HK.out
      have HG := Lib.hid (grown_of hb5 (some r))
      clear hb5 c0 c1 c2 c3 c4 c5 c6 c7 c8 c9 cf H
      go_wp2_with fail
      go_region_held3 (fun w' => w'.cell? ⟨r, 0, none⟩ = some (.string s) ∧ w'.cell? ⟨r, 6, none⟩ = some (.int .i64 m.z))
        (first | exact ⟨d0, d6⟩ | (go_split_ands; (simp [go_sem, d0, d6])))
        ((go_at_call 30; refine (HB.out _).mono ?_; rintro e1 w6 ⟨rfl, rfl⟩))
      all_goals go_wp2_with fail
      all_goals go_ret
      all_goals exact ⟨rfl, grown_drawn (grown_set (grown_set HG.out _ _) _ _), m, m.z, c, (BlkAt.set HK.out 8 (.int .i64 p)).set 9 (.int .i64 e)⟩
    · have hb5 : Below w.heap.size w (((((w4.setCell ⟨w.heap.size, 0, none⟩ (.int .u8 0)).setCell ⟨w.heap.size, 1, none⟩ (.int .i64 0)).setCell ⟨w.heap.size, 2, none⟩ (.int .i64 0)).setCell ⟨w.heap.size, 3, none⟩ (.int .i64 0)).setCell ⟨w.heap.size, 4, none⟩ (.string ⟨#[]⟩)) := bel_set (bel_set (bel_set (bel_set (bel_set (below_more (bel_alloc (bel_drew (Below.refl _ _)) _) hb3) (Nat.le_refl _) _) (Nat.le_refl _) _) (Nat.le_refl _) _) (Nat.le_refl _) _) (Nat.le_refl _) _
      have HM : Hid (BlkAt (((((w4.setCell ⟨w.heap.size, 0, none⟩ (.int .u8 0)).setCell ⟨w.heap.size, 1, none⟩ (.int .i64 0)).setCell ⟨w.heap.size, 2, none⟩ (.int .i64 0)).setCell ⟨w.heap.size, 3, none⟩ (.int .i64 0)).setCell ⟨w.heap.size, 4, none⟩ (.string ⟨#[]⟩)) w.heap.size 50 #[.int .u8 0, .int .i64 0, .int .i64 0, .int .i64 0, .string ⟨#[]⟩]) :=
        ((((BlkAt.set (BlkAt.keep (show BlkAt (w.drew.alloc (.cells mark7 50)) w.heap.size 50 mark7 from heap_alloc_last w.drew _) hb3) 0 _).set 1 _).set 2 _).set 3 _).set 4 _
      have hbr : w.heap.size ≠ r := by omega
      obtain ⟨w5, hw5⟩ : ∃ x, (((((w4.setCell ⟨w.heap.size, 0, none⟩ (.int .u8 0)).setCell ⟨w.heap.size, 1, none⟩ (.int .i64 0)).setCell ⟨w.heap.size, 2, none⟩ (.int .i64 0)).setCell ⟨w.heap.size, 3, none⟩ (.int .i64 0)).setCell ⟨w.heap.size, 4, none⟩ (.string ⟨#[]⟩)) = x := ⟨_, rfl⟩
      rw [hw5] at HM hb5 ⊢
      obtain ⟨b, hbe⟩ : ∃ x, w.heap.size = x := ⟨_, rfl⟩
      rw [hbe] at HM hbr ⊢
      clear hw5 hbe hb3 hc3 hf3 hsz3
      have HK : Hid (WkAt w5 r s m m.z c 0 0) := BlkAt.keep H.out hb5
      obtain ⟨d0, d1, d2, d3, d4, d5, d6, d7, d8, d9, df⟩ := wk10 HK.out
      have hrl : r < w5.heap.size := BlkAt.lt HK.out
      have HG := Lib.hid (grown_of hb5 (some r))
      clear hb5 c0 c1 c2 c3 c4 c5 c6 c7 c8 c9 cf H
      go_wp2_with fail
      go_region_held3 (fun w' => w'.cell? ⟨r, 0, none⟩ = some (.string s) ∧ w'.cell? ⟨r, 6, none⟩ = some (.int .i64 m.z))
        (first | exact ⟨d0, d6⟩ | (go_split_ands; (simp [go_sem, d0, d6])))
        ((go_at_call 30; refine (HB.out _).mono ?_; rintro e1 w6 ⟨rfl, rfl⟩))
      all_goals go_wp2_with fail
      all_goals go_ret
      all_goals exact ⟨rfl, grown_drawn (grown_set (grown_set HG.out _ _) _ _), m, m.z, c, (BlkAt.set HK.out 8 (.int .i64 p)).set 9 (.int .i64 e)⟩
  · rw [hms.out] at h1
    simp at h1
set_option maxRecDepth 100000 in
set_option maxHeartbeats 4000000 in
theorem wnext_tok {w : World} {r : Nat} {s : ByteArray} {m : Mk} {ms : List Lx} {c : Int} (hs : s.size ≤ 65536) (h : WSt w r s m ms c) (hk : m.k ≠ 11) {m' : Mk} {ms' : List Lx} (hms : Hid (ms = .tok m' :: ms')) :
    Calls Tryz.prog 14 #[.pointer (some ⟨r, 0, none⟩)] w fun e' w' => e' = .returned (.bool true) ∧ w.grownBy w' (some r) ∧ WSt w' r s m' ms' c := by
  obtain ⟨p', e', h1, -⟩ | ⟨m2, ms2, h1, hn, hz2, hms2, hb2⟩ := h.next hk
  · rw [hms.out] at h1
    simp at h1
  · rw [hms.out] at h1
    simp only [List.cons.injEq, Lx.tok.injEq] at h1
    obtain ⟨rfl, rfl⟩ := h1
    obtain ⟨c0, c1, c2, c3, c4, c5, c6, c7, c8, c9, cf⟩ := wk10 h.blk
    have hlt := h.lt
    have hmz := h.z
    have HN := Lib.hid (fun W => refNext7_in s m.z W (by omega) h.z m'.k m'.a m'.z m'.n ⟨m'.t.toArray⟩ 0 (Lib.hid (show resV _ = _ by rw [hn]; rfl)))
    have H := Lib.hid h.blk
    have HMS := Lib.hid hms2
    have HMB := Lib.hid hb2
    clear h hn hms hms2 hb2
    go_enter Tryz.func14, Tryz.ntmps14
    go_wp2_with fail
    go_region_held3 (fun w' => Below w.heap.size w w' ∧ w'.cell? ⟨r, 0, none⟩ = some (.string s) ∧ w'.cell? ⟨r, 6, none⟩ = some (.int .i64 m.z))
      ((refine (fun h => ⟨h, cell_keep h c0, cell_keep h c6⟩ : Below w.heap.size w _ → _) ?_; go_split_ands; (repeat (first | exact Below.refl _ _ | assumption | refine bel_drew ?_ | refine bel_alloc ?_ _ | refine bel_set ?_ (Nat.le_refl _) _ | refine below_more ?_ (by assumption)))))
      ((go_at_call 29; refine (HN.out _).mono ?_; rintro e1 w4 ⟨rfl, hb3⟩; obtain ⟨hc3, hf3⟩ := bcell hb3; have hsz3 := hb3.size))
    · have hb5 := bel_alloc (⟨hb3.os, hb3.tape, hb3.output, hb3.size, hb3.block⟩ : Below w.heap.size w w4) (.cells #[.int .u8 m'.k, .int .i64 m'.a, .int .i64 m'.z, .int .i64 m'.n, .string ⟨m'.t.toArray⟩] 50)
      have HM : Hid (BlkAt (w4.alloc (.cells #[.int .u8 m'.k, .int .i64 m'.a, .int .i64 m'.z, .int .i64 m'.n, .string ⟨m'.t.toArray⟩] 50)) w4.heap.size 50 #[.int .u8 m'.k, .int .i64 m'.a, .int .i64 m'.z, .int .i64 m'.n, .string ⟨m'.t.toArray⟩]) := blkAt_new w4 _ _
      have hbr : w4.heap.size ≠ r := by have h7 : w.heap.size ≤ w4.heap.size := hsz3; omega
      obtain ⟨w5, hw5⟩ : ∃ x, w4.alloc (.cells #[.int .u8 m'.k, .int .i64 m'.a, .int .i64 m'.z, .int .i64 m'.n, .string ⟨m'.t.toArray⟩] 50) = x := ⟨_, rfl⟩
      rw [hw5] at HM hb5 ⊢
      obtain ⟨b, hbe⟩ : ∃ x, w4.heap.size = x := ⟨_, rfl⟩
      rw [hbe] at HM hbr ⊢
      clear hw5 hbe hb3 hc3 hf3 hsz3
      have HK : Hid (WkAt w5 r s m m.z c 0 0) := BlkAt.keep H.out hb5
      obtain ⟨d0, d1, d2, d3, d4, d5, d6, d7, d8, d9, df⟩ := wk10 HK.out
      obtain ⟨m0, m1, m2, m3, m4, mf⟩ := blk5 HM.out
      have hrl : r < w5.heap.size := BlkAt.lt HK.out
      have HG := Lib.hid (grown_of hb5 (some r))
      clear hb5 c0 c1 c2 c3 c4 c5 c6 c7 c8 c9 cf H
      go_wp2_with fail
      go_region
      all_goals go_wp2_with fail
      all_goals go_ret
      all_goals exact ⟨rfl, grown_drawn (grown_set (grown_set (grown_set (grown_set (grown_set (grown_set HG.out _ _) _ _) _ _) _ _) _ _) _ _), WkAt.drew (wk_mark HK.out m'), hz2, HMS.out, HMB.out⟩
    · have hb5 : Below w.heap.size w (((((w4.setCell ⟨w.heap.size, 0, none⟩ (.int .u8 m'.k)).setCell ⟨w.heap.size, 1, none⟩ (.int .i64 m'.a)).setCell ⟨w.heap.size, 2, none⟩ (.int .i64 m'.z)).setCell ⟨w.heap.size, 3, none⟩ (.int .i64 m'.n)).setCell ⟨w.heap.size, 4, none⟩ (.string ⟨m'.t.toArray⟩)) := bel_set (bel_set (bel_set (bel_set (bel_set (below_more (bel_alloc (bel_drew (Below.refl _ _)) _) hb3) (Nat.le_refl _) _) (Nat.le_refl _) _) (Nat.le_refl _) _) (Nat.le_refl _) _) (Nat.le_refl _) _
      have HM : Hid (BlkAt (((((w4.setCell ⟨w.heap.size, 0, none⟩ (.int .u8 m'.k)).setCell ⟨w.heap.size, 1, none⟩ (.int .i64 m'.a)).setCell ⟨w.heap.size, 2, none⟩ (.int .i64 m'.z)).setCell ⟨w.heap.size, 3, none⟩ (.int .i64 m'.n)).setCell ⟨w.heap.size, 4, none⟩ (.string ⟨m'.t.toArray⟩)) w.heap.size 50 #[.int .u8 m'.k, .int .i64 m'.a, .int .i64 m'.z, .int .i64 m'.n, .string ⟨m'.t.toArray⟩]) :=
        ((((BlkAt.set (BlkAt.keep (show BlkAt (w.drew.alloc (.cells mark7 50)) w.heap.size 50 mark7 from heap_alloc_last w.drew _) hb3) 0 _).set 1 _).set 2 _).set 3 _).set 4 _
      have hbr : w.heap.size ≠ r := by omega
      obtain ⟨w5, hw5⟩ : ∃ x, (((((w4.setCell ⟨w.heap.size, 0, none⟩ (.int .u8 m'.k)).setCell ⟨w.heap.size, 1, none⟩ (.int .i64 m'.a)).setCell ⟨w.heap.size, 2, none⟩ (.int .i64 m'.z)).setCell ⟨w.heap.size, 3, none⟩ (.int .i64 m'.n)).setCell ⟨w.heap.size, 4, none⟩ (.string ⟨m'.t.toArray⟩)) = x := ⟨_, rfl⟩
      rw [hw5] at HM hb5 ⊢
      obtain ⟨b, hbe⟩ : ∃ x, w.heap.size = x := ⟨_, rfl⟩
      rw [hbe] at HM hbr ⊢
      clear hw5 hbe hb3 hc3 hf3 hsz3
      have HK : Hid (WkAt w5 r s m m.z c 0 0) := BlkAt.keep H.out hb5
      obtain ⟨d0, d1, d2, d3, d4, d5, d6, d7, d8, d9, df⟩ := wk10 HK.out
      obtain ⟨m0, m1, m2, m3, m4, mf⟩ := blk5 HM.out
      have hrl : r < w5.heap.size := BlkAt.lt HK.out
      have HG := Lib.hid (grown_of hb5 (some r))
      clear hb5 c0 c1 c2 c3 c4 c5 c6 c7 c8 c9 cf H
      go_wp2_with fail
      go_region
      all_goals go_wp2_with fail
      all_goals go_ret
      all_goals exact ⟨rfl, grown_drawn (grown_set (grown_set (grown_set (grown_set (grown_set (grown_set HG.out _ _) _ _) _ _) _ _) _ _) _ _), WkAt.drew (wk_mark HK.out m'), hz2, HMS.out, HMB.out⟩
end Go.Proofs.YtfdecbfcddkoiaaGreatDoor
