/-
  legateref09: the walk over the marks of a text, by the document's words: where it stands; the next mark; a mark that is wrong.
  legateref09.walk.value: what is no list and no object; what may not be.
  legateref09.walk.list, over the contract of value.
-/
import Derived.Test.YtmggmpigpiaagaaGreatDoorPickD4
import Derived.Test.YtmggmpigpiaagaaGreatDoorReadP
import Derived.Test.YtmggmpigpiaagaaGreatDoorRefNext
import Derived.Deep.RegionHeld3
import Derived.StillTailTactics
import Derived.Test.YtmggmpigpiaagaaGreatDoorWkIns
namespace Go.Proofs.YtmggmpigpiaagaaGreatDoor
section
set_option maxRecDepth 100000
open Go.RowKit
def WkAt (w : World) (r : Nat) (s : ByteArray) (m : Mk) (at' n p e : Int) : Prop :=
 BlkAt w r 75 #[.string s, .int .u8 m.k, .int .i64 m.a, .int .i64 m.z, .int .i64 m.n, .string ⟨m.t.toArray⟩, .int .i64 at', .int .i64 n, .int .i64 p, .int .i64 e]
structure WSt (w : World) (r : Nat) (s : ByteArray) (m : Mk) (ms : List Lx) (c : Int) : Prop where
 blk : WkAt w r s m m.z c 0 0
 z : m.z ≤ s.size
 ms : ms = if m.k = 11 then [] else lexes (s.data.toList.drop m.z) m.z
 b : MkB m
def WBad (w : World) (r : Nat) (s : ByteArray) (p : Nat) (e : Int) : Prop := ∃ (m : Mk) (at' n : Int), WkAt w r s m at' n p e
theorem wk10 {w : World} {r : Nat} {T : TypeId} {v0 v1 v2 v3 v4 v5 v6 v7 v8 v9 : Value} (h : BlkAt w r T #[v0, v1, v2, v3, v4, v5, v6, v7, v8, v9]) :
   w.cell? ⟨r, 0, none⟩ = some v0 ∧ w.cell? ⟨r, 1, none⟩ = some v1 ∧ w.cell? ⟨r, 2, none⟩ = some v2 ∧ w.cell? ⟨r, 3, none⟩ = some v3 ∧ w.cell? ⟨r, 4, none⟩ = some v4 ∧ w.cell? ⟨r, 5, none⟩ = some v5 ∧ w.cell? ⟨r, 6, none⟩ = some v6 ∧ w.cell? ⟨r, 7, none⟩ = some v7 ∧ w.cell? ⟨r, 8, none⟩ = some v8 ∧ w.cell? ⟨r, 9, none⟩ = some v9 ∧ ∀ i, w.frozen? ⟨r, i, none⟩ = false :=
 ⟨h.cell 0, h.cell 1, h.cell 2, h.cell 3, h.cell 4, h.cell 5, h.cell 6, h.cell 7, h.cell 8, h.cell 9, h.free⟩
theorem WSt.lt {w : World} {r : Nat} {s : ByteArray} {m : Mk} {ms : List Lx} {c : Int} (h : WSt w r s m ms c) : r < w.heap.size := BlkAt.lt h.blk
theorem WSt.same {w w' : World} {r : Nat} {s : ByteArray} {m : Mk} {ms : List Lx} {c : Int} (h : WSt w r s m ms c) (hb : w'.heap[r]? = w.heap[r]?) : WSt w' r s m ms c := ⟨by have := h.blk; unfold WkAt BlkAt at this ⊢; rw [hb]; exact this, h.z, h.ms, h.b⟩
theorem WSt.keep {w w' : World} {r : Nat} {s : ByteArray} {m : Mk} {ms : List Lx} {c : Int} (h : WSt w r s m ms c) (hb : Below w.heap.size w w') : WSt w' r s m ms c := h.same (hb.block r h.lt)
theorem WBad.same {w w' : World} {r : Nat} {s : ByteArray} {p : Nat} {e : Int} (h : WBad w r s p e) (hb : w'.heap[r]? = w.heap[r]?) : WBad w' r s p e := by
 obtain ⟨m, a, n, h⟩ := h
 exact ⟨m, a, n, by unfold WkAt BlkAt at h ⊢; rw [hb]; exact h⟩
theorem WSt.nonil {w : World} {r : Nat} {s : ByteArray} {m : Mk} {c : Int} (h : WSt w r s m [] c) : m.k = 11 := by
 apply Classical.byContradiction
 intro hk
 have h3 := h.ms
 rw [if_neg hk] at h3
 exact lexes_ne _ _ h3.symm
theorem WSt.kcell {w : World} {r : Nat} {s : ByteArray} {m : Mk} {ms : List Lx} {c : Int} (h : WSt w r s m ms c) : w.cell? ⟨r, 1, none⟩ = some (.int .u8 m.k) := (wk10 h.blk).2.1
theorem WSt.count {w : World} {r : Nat} {s : ByteArray} {m : Mk} {ms : List Lx} {c : Int} (h : WSt w r s m ms c) (c' : Int) : WSt (w.setCell ⟨r, 7, none⟩ (.int .i64 c')) r s m ms c' := ⟨BlkAt.set h.blk 7 _, h.z, h.ms, h.b⟩
theorem wk_mark {w5 : World} {r : Nat} {s : ByteArray} {m : Mk} {c : Int} (HK : WkAt w5 r s m m.z c 0 0) (m' : Mk) : WkAt ((((((w5.setCell ⟨r, 1, none⟩ (.int .u8 m'.k)).setCell ⟨r, 2, none⟩ (.int .i64 m'.a)).setCell ⟨r, 3, none⟩ (.int .i64 m'.z)).setCell ⟨r, 4, none⟩ (.int .i64 m'.n)).setCell ⟨r, 5, none⟩ (.string ⟨m'.t.toArray⟩)).setCell ⟨r, 6, none⟩ (.int .i64 m'.z)) r s m' m'.z c 0 0 := by
 have k1 : BlkAt (w5.setCell ⟨r, 1, none⟩ (.int .u8 m'.k)) r 75 #[.string s, .int .u8 m'.k, .int .i64 m.a, .int .i64 m.z, .int .i64 m.n, .string ⟨m.t.toArray⟩, .int .i64 m.z, .int .i64 c, .int .i64 0, .int .i64 0] := BlkAt.set HK 1 _
 have k2 : BlkAt ((w5.setCell ⟨r, 1, none⟩ (.int .u8 m'.k)).setCell ⟨r, 2, none⟩ (.int .i64 m'.a)) r 75 #[.string s, .int .u8 m'.k, .int .i64 m'.a, .int .i64 m.z, .int .i64 m.n, .string ⟨m.t.toArray⟩, .int .i64 m.z, .int .i64 c, .int .i64 0, .int .i64 0] := BlkAt.set k1 2 _
 have k3 : BlkAt (((w5.setCell ⟨r, 1, none⟩ (.int .u8 m'.k)).setCell ⟨r, 2, none⟩ (.int .i64 m'.a)).setCell ⟨r, 3, none⟩ (.int .i64 m'.z)) r 75 #[.string s, .int .u8 m'.k, .int .i64 m'.a, .int .i64 m'.z, .int .i64 m.n, .string ⟨m.t.toArray⟩, .int .i64 m.z, .int .i64 c, .int .i64 0, .int .i64 0] := BlkAt.set k2 3 _
 have k4 : BlkAt ((((w5.setCell ⟨r, 1, none⟩ (.int .u8 m'.k)).setCell ⟨r, 2, none⟩ (.int .i64 m'.a)).setCell ⟨r, 3, none⟩ (.int .i64 m'.z)).setCell ⟨r, 4, none⟩ (.int .i64 m'.n)) r 75 #[.string s, .int .u8 m'.k, .int .i64 m'.a, .int .i64 m'.z, .int .i64 m'.n, .string ⟨m.t.toArray⟩, .int .i64 m.z, .int .i64 c, .int .i64 0, .int .i64 0] := BlkAt.set k3 4 _
 have k5 : BlkAt (((((w5.setCell ⟨r, 1, none⟩ (.int .u8 m'.k)).setCell ⟨r, 2, none⟩ (.int .i64 m'.a)).setCell ⟨r, 3, none⟩ (.int .i64 m'.z)).setCell ⟨r, 4, none⟩ (.int .i64 m'.n)).setCell ⟨r, 5, none⟩ (.string ⟨m'.t.toArray⟩)) r 75 #[.string s, .int .u8 m'.k, .int .i64 m'.a, .int .i64 m'.z, .int .i64 m'.n, .string ⟨m'.t.toArray⟩, .int .i64 m.z, .int .i64 c, .int .i64 0, .int .i64 0] := BlkAt.set k4 5 _
 have k6 : BlkAt ((((((w5.setCell ⟨r, 1, none⟩ (.int .u8 m'.k)).setCell ⟨r, 2, none⟩ (.int .i64 m'.a)).setCell ⟨r, 3, none⟩ (.int .i64 m'.z)).setCell ⟨r, 4, none⟩ (.int .i64 m'.n)).setCell ⟨r, 5, none⟩ (.string ⟨m'.t.toArray⟩)).setCell ⟨r, 6, none⟩ (.int .i64 m'.z)) r 75 #[.string s, .int .u8 m'.k, .int .i64 m'.a, .int .i64 m'.z, .int .i64 m'.n, .string ⟨m'.t.toArray⟩, .int .i64 m'.z, .int .i64 c, .int .i64 0, .int .i64 0] := BlkAt.set k5 6 _
 exact k6
theorem WkAt.drew {w : World} {r : Nat} {s : ByteArray} {m : Mk} {a n p e : Int} (h : WkAt w r s m a n p e) : WkAt w.drew r s m a n p e := h
theorem WSt.next {w : World} {r : Nat} {s : ByteArray} {m : Mk} {ms : List Lx} {c : Int} (h : WSt w r s m ms c) (hk : m.k ≠ 11) : (∃ p e, ms = [.err p e] ∧ e ≠ 0 ∧ m.z + blanks (s.data.toList.drop m.z) = p ∧ nextM s.data.toList m.z = (⟨0, 0, 0, 0, []⟩, e)) ∨ (∃ m' ms', ms = .tok m' :: ms' ∧ nextM s.data.toList m.z = (m', 0) ∧ m'.z ≤ s.size ∧ (ms' = if m'.k = 11 then [] else lexes (s.data.toList.drop m'.z) m'.z) ∧ MkB m') := by
 have h3 := h.ms
 rw [if_neg hk] at h3
 obtain ⟨m', er, hn⟩ : ∃ m' er, nextM s.data.toList m.z = (m', er) := ⟨_, _, rfl⟩
 by_cases he : er = 0
 · subst he
   rw [lexes_tok _ _ _ hn] at h3
   obtain ⟨-, -, -, k4, -⟩ := nextM_ok (by rw [size_len]; exact h.z) hn
   rw [size_len] at k4
   exact .inr ⟨m', _, h3, hn, k4, rfl, nextM_b hn⟩
 · rw [lexes_bad _ _ _ _ hn he] at h3
   have hm' := nextM_zero hn he
   subst hm'
   exact .inl ⟨_, er, h3, he, rfl, hn⟩
theorem grown_drawn {w w' : World} {row : Option Nat} (h : w.grownBy w' row) : w.grownBy w'.drew row := ⟨h.os, h.tape, h.output, h.size, h.block⟩
set_option maxHeartbeats 4000000 in
theorem wbad_any {w : World} {r : Nat} {s : ByteArray} {m : Mk} {ms : List Lx} {c : Int} (h : WSt w r s m ms c) (e v : Int) (hv : Hid (wrongE m e = v)) :
   Calls Tryz.prog 70 #[.pointer (some ⟨r, 0, none⟩), .int .i64 e] w fun e' w' => e' = .returned (.tuple #[zeroV, .bool false]) ∧ w.grownBy w' (some r) ∧ WBad w' r s m.a v := by
 have hlt := h.lt
 obtain ⟨c0, c1, c2, c3, c4, c5, c6, c7, c8, c9, cf⟩ := wk10 h.blk
 have HK := Lib.hid h.blk
 have hne : w.heap.size ≠ r := by omega
 unfold wrongE at hv
 by_cases hk : m.k = 11
 · have hkb : (m.k == 11) = true := by rw [hk]; rfl
   have he : v = 4 := by have := hv.out; rw [if_pos hk] at this; exact this.symm
   subst he
   clear hv h
   go_enter Tryz.func70, Tryz.ntmps70
   go_wp2_with fail
   exact bodyPost_ret (v := .tuple #[zeroV, .bool false]) (by simp [results, Tryz.results70, go_sem, zeroV]) rfl ⟨rfl, grown_alloc (grown_set (grown_set (World.grownBy.refl _ _) _ _) _ _) _, m, m.z, c, ((BlkAt.set HK.out 8 _).set 9 _).alloc _⟩
 · have hkb : (m.k == 11) = false := beq_eq_false_iff_ne.2 hk
   have he : e = v := by have := hv.out; rw [if_neg hk] at this; exact this
   subst he
   clear hv h hk
   go_enter Tryz.func70, Tryz.ntmps70
   go_wp2_with fail
   exact bodyPost_ret (v := .tuple #[zeroV, .bool false]) (by simp [results, Tryz.results70, go_sem, zeroV]) rfl ⟨rfl, grown_alloc (grown_set (grown_set (World.grownBy.refl _ _) _ _) _ _) _, m, m.z, c, ((BlkAt.set HK.out 8 _).set 9 _).alloc _⟩
set_option maxHeartbeats 4000000 in
theorem wnext_err {w : World} {r : Nat} {s : ByteArray} {m : Mk} {ms : List Lx} {c : Int} (hs : s.size ≤ 65536) (h : WSt w r s m ms c) (hk : m.k ≠ 11) {p : Nat} {e : Int} {tl : List Lx} (hms : Hid (ms = .err p e :: tl)) :
   Calls Tryz.prog 34 #[.pointer (some ⟨r, 0, none⟩)] w fun e' w' => e' = .returned (.bool false) ∧ w.grownBy w' (some r) ∧ WBad w' r s p e := by
 obtain ⟨p', e', h1, hne, hp, hn⟩ | ⟨m', ms', h1, -⟩ := h.next hk
 · rw [hms.out] at h1
   simp only [List.cons.injEq, Lx.err.injEq] at h1
   obtain ⟨⟨rfl, rfl⟩, -⟩ := h1
   obtain ⟨c0, c1, c2, c3, c4, c5, c6, c7, c8, c9, cf⟩ := wk10 h.blk
   have hlt := h.lt
   have hmz := h.z
   have HN := Lib.hid (fun W => refNext7_in s m.z W (by omega) h.z 0 0 0 0 ⟨#[]⟩ e (Lib.hid (show resV _ = _ by rw [hn]; rfl)))
   have HB := Lib.hid (fun W => behind_any s m.z W (by omega) h.z p (Lib.hid hp))
   have heb : (e != 0) = true := by rw [bne_iff_ne]; exact hne
   have H := Lib.hid h.blk
   clear h hp hn hms
   go_enter Tryz.func34, Tryz.ntmps34
   go_wp2_with fail
   go_region_held3 (fun w' => Below w.heap.size w w' ∧ w'.cell? ⟨r, 0, none⟩ = some (.string s) ∧ w'.cell? ⟨r, 6, none⟩ = some (.int .i64 m.z))
     ((refine (fun h => ⟨h, cell_keep h c0, cell_keep h c6⟩ : Below w.heap.size w _ → _) ?_; go_split_ands; (repeat (first | exact Below.refl _ _ | assumption | refine bel_drew ?_ | refine bel_alloc ?_ _ | refine bel_set ?_ (Nat.le_refl _) _ | refine below_more ?_ (by assumption)))))
     ((go_at_call 68; refine (HN.out _).mono ?_; rintro e1 w4 ⟨rfl, hb3⟩; obtain ⟨hc3, hf3⟩ := bcell hb3; have hsz3 := hb3.size))
   · have hb5 := bel_alloc (⟨hb3.os, hb3.tape, hb3.output, hb3.size, hb3.block⟩ : Below w.heap.size w w4) (.cells #[.int .u8 0, .int .i64 0, .int .i64 0, .int .i64 0, .string ⟨#[]⟩] 73)
     have HM : Hid (BlkAt (w4.alloc (.cells #[.int .u8 0, .int .i64 0, .int .i64 0, .int .i64 0, .string ⟨#[]⟩] 73)) w4.heap.size 73 #[.int .u8 0, .int .i64 0, .int .i64 0, .int .i64 0, .string ⟨#[]⟩]) := blkAt_new w4 _ _
     have hbr : w4.heap.size ≠ r := by have h7 : w.heap.size ≤ w4.heap.size := hsz3; omega
     obtain ⟨w5, hw5⟩ : ∃ x, w4.alloc (.cells #[.int .u8 0, .int .i64 0, .int .i64 0, .int .i64 0, .string ⟨#[]⟩] 73) = x := ⟨_, rfl⟩
     rw [hw5] at HM hb5 ⊢
     obtain ⟨b, hbe⟩ : ∃ x, w4.heap.size = x := ⟨_, rfl⟩
     rw [hbe] at HM hbr ⊢
     clear hw5 hbe hb3 hc3 hf3 hsz3
     have HK : Hid (WkAt w5 r s m m.z c 0 0) := BlkAt.keep H.out hb5
     obtain ⟨d0, d1, d2, d3, d4, d5, d6, d7, d8, d9, df⟩ := wk10 HK.out
     have hrl : r < w5.heap.size := BlkAt.lt HK.out
     have HG := Lib.hid (grown_of hb5 (some r))
     clear hb5 c0 c1 c2 c3 c4 c5 c6 c7 c8 c9 cf H
     go_wp2_with fail
     go_region_held3 (fun w' => w'.cell? ⟨r, 0, none⟩ = some (.string s) ∧ w'.cell? ⟨r, 6, none⟩ = some (.int .i64 m.z))
       (first | exact ⟨d0, d6⟩ | (go_split_ands; (simp [go_sem, d0, d6])))
       ((go_at_call 69; refine (HB.out _).mono ?_; rintro e1 w6 ⟨rfl, rfl⟩))
     all_goals go_wp2_with fail
     all_goals go_ret
     all_goals exact ⟨rfl, grown_drawn (grown_set (grown_set HG.out _ _) _ _), m, m.z, c, (BlkAt.set HK.out 8 (.int .i64 p)).set 9 (.int .i64 e)⟩
   · have hb5 : Below w.heap.size w (((((w4.setCell ⟨w.heap.size, 0, none⟩ (.int .u8 0)).setCell ⟨w.heap.size, 1, none⟩ (.int .i64 0)).setCell ⟨w.heap.size, 2, none⟩ (.int .i64 0)).setCell ⟨w.heap.size, 3, none⟩ (.int .i64 0)).setCell ⟨w.heap.size, 4, none⟩ (.string ⟨#[]⟩)) := bel_set (bel_set (bel_set (bel_set (bel_set (below_more (bel_alloc (bel_drew (Below.refl _ _)) _) hb3) (Nat.le_refl _) _) (Nat.le_refl _) _) (Nat.le_refl _) _) (Nat.le_refl _) _) (Nat.le_refl _) _
     have HM : Hid (BlkAt (((((w4.setCell ⟨w.heap.size, 0, none⟩ (.int .u8 0)).setCell ⟨w.heap.size, 1, none⟩ (.int .i64 0)).setCell ⟨w.heap.size, 2, none⟩ (.int .i64 0)).setCell ⟨w.heap.size, 3, none⟩ (.int .i64 0)).setCell ⟨w.heap.size, 4, none⟩ (.string ⟨#[]⟩)) w.heap.size 73 #[.int .u8 0, .int .i64 0, .int .i64 0, .int .i64 0, .string ⟨#[]⟩]) :=
       ((((BlkAt.set (BlkAt.keep (show BlkAt (w.drew.alloc (.cells mark7 73)) w.heap.size 73 mark7 from heap_alloc_last w.drew _) hb3) 0 _).set 1 _).set 2 _).set 3 _).set 4 _
     have hbr : w.heap.size ≠ r := by omega
     obtain ⟨w5, hw5⟩ : ∃ x, (((((w4.setCell ⟨w.heap.size, 0, none⟩ (.int .u8 0)).setCell ⟨w.heap.size, 1, none⟩ (.int .i64 0)).setCell ⟨w.heap.size, 2, none⟩ (.int .i64 0)).setCell ⟨w.heap.size, 3, none⟩ (.int .i64 0)).setCell ⟨w.heap.size, 4, none⟩ (.string ⟨#[]⟩)) = x := ⟨_, rfl⟩
     rw [hw5] at HM hb5 ⊢
     obtain ⟨b, hbe⟩ : ∃ x, w.heap.size = x := ⟨_, rfl⟩
     rw [hbe] at HM hbr ⊢
     clear hw5 hbe hb3 hc3 hf3 hsz3
     have HK : Hid (WkAt w5 r s m m.z c 0 0) := BlkAt.keep H.out hb5
     obtain ⟨d0, d1, d2, d3, d4, d5, d6, d7, d8, d9, df⟩ := wk10 HK.out
     have hrl : r < w5.heap.size := BlkAt.lt HK.out
     have HG := Lib.hid (grown_of hb5 (some r))
     clear hb5 c0 c1 c2 c3 c4 c5 c6 c7 c8 c9 cf H
     go_wp2_with fail
     go_region_held3 (fun w' => w'.cell? ⟨r, 0, none⟩ = some (.string s) ∧ w'.cell? ⟨r, 6, none⟩ = some (.int .i64 m.z))
       (first | exact ⟨d0, d6⟩ | (go_split_ands; (simp [go_sem, d0, d6])))
       ((go_at_call 69; refine (HB.out _).mono ?_; rintro e1 w6 ⟨rfl, rfl⟩))
     all_goals go_wp2_with fail
     all_goals go_ret
     all_goals exact ⟨rfl, grown_drawn (grown_set (grown_set HG.out _ _) _ _), m, m.z, c, (BlkAt.set HK.out 8 (.int .i64 p)).set 9 (.int .i64 e)⟩
 · rw [hms.out] at h1
   simp at h1
set_option maxHeartbeats 4000000 in
theorem wnext_tok {w : World} {r : Nat} {s : ByteArray} {m : Mk} {ms : List Lx} {c : Int} (hs : s.size ≤ 65536) (h : WSt w r s m ms c) (hk : m.k ≠ 11) {m' : Mk} {ms' : List Lx} (hms : Hid (ms = .tok m' :: ms')) :
   Calls Tryz.prog 34 #[.pointer (some ⟨r, 0, none⟩)] w fun e' w' => e' = .returned (.bool true) ∧ w.grownBy w' (some r) ∧ WSt w' r s m' ms' c := by
 obtain ⟨p', e', h1, -⟩ | ⟨m2, ms2, h1, hn, hz2, hms2, hb2⟩ := h.next hk
 · rw [hms.out] at h1
   simp at h1
 · rw [hms.out] at h1
   simp only [List.cons.injEq, Lx.tok.injEq] at h1
   obtain ⟨rfl, rfl⟩ := h1
   obtain ⟨c0, c1, c2, c3, c4, c5, c6, c7, c8, c9, cf⟩ := wk10 h.blk
   have hlt := h.lt
   have hmz := h.z
   have HN := Lib.hid (fun W => refNext7_in s m.z W (by omega) h.z m'.k m'.a m'.z m'.n ⟨m'.t.toArray⟩ 0 (Lib.hid (show resV _ = _ by rw [hn]; rfl)))
   have H := Lib.hid h.blk
   have HMS := Lib.hid hms2
   have HMB := Lib.hid hb2
   clear h hn hms hms2 hb2
   go_enter Tryz.func34, Tryz.ntmps34
   go_wp2_with fail
   go_region_held3 (fun w' => Below w.heap.size w w' ∧ w'.cell? ⟨r, 0, none⟩ = some (.string s) ∧ w'.cell? ⟨r, 6, none⟩ = some (.int .i64 m.z))
     ((refine (fun h => ⟨h, cell_keep h c0, cell_keep h c6⟩ : Below w.heap.size w _ → _) ?_; go_split_ands; (repeat (first | exact Below.refl _ _ | assumption | refine bel_drew ?_ | refine bel_alloc ?_ _ | refine bel_set ?_ (Nat.le_refl _) _ | refine below_more ?_ (by assumption)))))
     ((go_at_call 68; refine (HN.out _).mono ?_; rintro e1 w4 ⟨rfl, hb3⟩; obtain ⟨hc3, hf3⟩ := bcell hb3; have hsz3 := hb3.size))
   · have hb5 := bel_alloc (⟨hb3.os, hb3.tape, hb3.output, hb3.size, hb3.block⟩ : Below w.heap.size w w4) (.cells #[.int .u8 m'.k, .int .i64 m'.a, .int .i64 m'.z, .int .i64 m'.n, .string ⟨m'.t.toArray⟩] 73)
     have HM : Hid (BlkAt (w4.alloc (.cells #[.int .u8 m'.k, .int .i64 m'.a, .int .i64 m'.z, .int .i64 m'.n, .string ⟨m'.t.toArray⟩] 73)) w4.heap.size 73 #[.int .u8 m'.k, .int .i64 m'.a, .int .i64 m'.z, .int .i64 m'.n, .string ⟨m'.t.toArray⟩]) := blkAt_new w4 _ _
     have hbr : w4.heap.size ≠ r := by have h7 : w.heap.size ≤ w4.heap.size := hsz3; omega
     obtain ⟨w5, hw5⟩ : ∃ x, w4.alloc (.cells #[.int .u8 m'.k, .int .i64 m'.a, .int .i64 m'.z, .int .i64 m'.n, .string ⟨m'.t.toArray⟩] 73) = x := ⟨_, rfl⟩
     rw [hw5] at HM hb5 ⊢
     obtain ⟨b, hbe⟩ : ∃ x, w4.heap.size = x := ⟨_, rfl⟩
     rw [hbe] at HM hbr ⊢
     clear hw5 hbe hb3 hc3 hf3 hsz3
     have HK : Hid (WkAt w5 r s m m.z c 0 0) := BlkAt.keep H.out hb5
     obtain ⟨d0, d1, d2, d3, d4, d5, d6, d7, d8, d9, df⟩ := wk10 HK.out
     obtain ⟨m0, m1, m2, m3, m4, mf⟩ := blk5 HM.out
     have hrl : r < w5.heap.size := BlkAt.lt HK.out
     have HG := Lib.hid (grown_of hb5 (some r))
     clear hb5 c0 c1 c2 c3 c4 c5 c6 c7 c8 c9 cf H
     go_wp2_with fail
     go_region
     all_goals go_wp2_with fail
     all_goals go_ret
     all_goals exact ⟨rfl, grown_drawn (grown_set (grown_set (grown_set (grown_set (grown_set (grown_set HG.out _ _) _ _) _ _) _ _) _ _) _ _), WkAt.drew (wk_mark HK.out m'), hz2, HMS.out, HMB.out⟩
   · have hb5 : Below w.heap.size w (((((w4.setCell ⟨w.heap.size, 0, none⟩ (.int .u8 m'.k)).setCell ⟨w.heap.size, 1, none⟩ (.int .i64 m'.a)).setCell ⟨w.heap.size, 2, none⟩ (.int .i64 m'.z)).setCell ⟨w.heap.size, 3, none⟩ (.int .i64 m'.n)).setCell ⟨w.heap.size, 4, none⟩ (.string ⟨m'.t.toArray⟩)) := bel_set (bel_set (bel_set (bel_set (bel_set (below_more (bel_alloc (bel_drew (Below.refl _ _)) _) hb3) (Nat.le_refl _) _) (Nat.le_refl _) _) (Nat.le_refl _) _) (Nat.le_refl _) _) (Nat.le_refl _) _
     have HM : Hid (BlkAt (((((w4.setCell ⟨w.heap.size, 0, none⟩ (.int .u8 m'.k)).setCell ⟨w.heap.size, 1, none⟩ (.int .i64 m'.a)).setCell ⟨w.heap.size, 2, none⟩ (.int .i64 m'.z)).setCell ⟨w.heap.size, 3, none⟩ (.int .i64 m'.n)).setCell ⟨w.heap.size, 4, none⟩ (.string ⟨m'.t.toArray⟩)) w.heap.size 73 #[.int .u8 m'.k, .int .i64 m'.a, .int .i64 m'.z, .int .i64 m'.n, .string ⟨m'.t.toArray⟩]) :=
       ((((BlkAt.set (BlkAt.keep (show BlkAt (w.drew.alloc (.cells mark7 73)) w.heap.size 73 mark7 from heap_alloc_last w.drew _) hb3) 0 _).set 1 _).set 2 _).set 3 _).set 4 _
     have hbr : w.heap.size ≠ r := by omega
     obtain ⟨w5, hw5⟩ : ∃ x, (((((w4.setCell ⟨w.heap.size, 0, none⟩ (.int .u8 m'.k)).setCell ⟨w.heap.size, 1, none⟩ (.int .i64 m'.a)).setCell ⟨w.heap.size, 2, none⟩ (.int .i64 m'.z)).setCell ⟨w.heap.size, 3, none⟩ (.int .i64 m'.n)).setCell ⟨w.heap.size, 4, none⟩ (.string ⟨m'.t.toArray⟩)) = x := ⟨_, rfl⟩
     rw [hw5] at HM hb5 ⊢
     obtain ⟨b, hbe⟩ : ∃ x, w.heap.size = x := ⟨_, rfl⟩
     rw [hbe] at HM hbr ⊢
     clear hw5 hbe hb3 hc3 hf3 hsz3
     have HK : Hid (WkAt w5 r s m m.z c 0 0) := BlkAt.keep H.out hb5
     obtain ⟨d0, d1, d2, d3, d4, d5, d6, d7, d8, d9, df⟩ := wk10 HK.out
     obtain ⟨m0, m1, m2, m3, m4, mf⟩ := blk5 HM.out
     have hrl : r < w5.heap.size := BlkAt.lt HK.out
     have HG := Lib.hid (grown_of hb5 (some r))
     clear hb5 c0 c1 c2 c3 c4 c5 c6 c7 c8 c9 cf H
     go_wp2_with fail
     go_region
     all_goals go_wp2_with fail
     all_goals go_ret
     all_goals exact ⟨rfl, grown_drawn (grown_set (grown_set (grown_set (grown_set (grown_set (grown_set HG.out _ _) _ _) _ _) _ _) _ _) _ _), WkAt.drew (wk_mark HK.out m'), hz2, HMS.out, HMB.out⟩
end

section
set_option maxRecDepth 100000
open Go.RowKit
def WPost (R : PR JV) (s : ByteArray) (r : Nat) (w : World) (e : Ending) (w' : World) : Prop :=
 w.grownBy w' (some r) ∧ match R with
   | .bad p er => e = .returned (.tuple #[zeroV, .bool false]) ∧ WBad w' r s p er
   | .ok V ms c => ∃ (x : VC) (m : Mk), e = .returned (.tuple #[x.val, .bool true]) ∧ NewV w.heap.size w' V x.val ∧ WSt w' r s m ms c ∧ m.k ≠ 11
theorem WSt.cells {w : World} {r : Nat} {s : ByteArray} {m : Mk} {ms : List Lx} {c : Int} (h : WSt w r s m ms c) : w.cell? ⟨r, 1, none⟩ = some (.int .u8 m.k) ∧ w.cell? ⟨r, 4, none⟩ = some (.int .i64 m.n) ∧ w.cell? ⟨r, 5, none⟩ = some (.string ⟨m.t.toArray⟩) ∧ w.cell? ⟨r, 7, none⟩ = some (.int .i64 c) ∧ ∀ i, w.frozen? ⟨r, i, none⟩ = false := by
 obtain ⟨c0, c1, c2, c3, c4, c5, c6, c7, c8, c9, cf⟩ := wk10 h.blk
 exact ⟨c1, c4, c5, c7, cf⟩
set_option maxHeartbeats 4000000 in
theorem wvalue_wrong {w : World} {r : Nat} {s : ByteArray} {m : Mk} {ms : List Lx} {c : Int} (deep : Int) (h : WSt w r s m ms c) (hb : begV m = false) (v : Int) (hv : Hid (wrongE m 3 = v)) :
   Calls Tryz.prog 35 #[.pointer (some ⟨r, 0, none⟩), .int .i64 deep] w (WPost (.bad m.a v) s r w) := by
 obtain ⟨e1, e2, e3, e4, e5, e6⟩ := begV_no hb
 have g1 : m.k ≠ 1 := by simpa using e1
 have g2 : m.k ≠ 3 := by simpa using e2
 have f1 : (m.k != 1) = true := by rw [bne, e1]; rfl
 have f2 : (m.k != 3) = true := by rw [bne, e2]; rfl
 have hlt := h.lt
 obtain ⟨c1, c4, c5, c7, cf⟩ := h.cells
 have hcs : m.k < 7 ∨ (¬ m.k < 7 ∧ 10 < m.k) := by
   have h3 : m.k ≠ 7 := by simpa using e3
   have h4 : m.k ≠ 8 := by simpa using e4
   have h5 : m.k ≠ 9 := by simpa using e5
   have h6 : m.k ≠ 10 := by simpa using e6
   omega
 have hZ : BlkAt (w.alloc (.cells zeroCs 26)) w.heap.size 26 zeroCs := blkAt_new w zeroCs _
 have HZ := Lib.hid hZ
 have HB := Lib.hid (wbad_any (h.keep (bel_alloc (Below.refl w.heap.size w) (.cells zeroCs 26))) 3 v hv)
 have HG := Lib.hid (grown_alloc (World.grownBy.refl w (some r)) (.cells zeroCs 26))
 clear hb h hZ hv e3 e4 e5 e6
 rcases hcs with q1 | ⟨q1, q2⟩
 all_goals
   go_enter Tryz.func35, Tryz.ntmps35
   go_wp2_with fail
   refine HB.out.mono ?_
   rintro e w1 ⟨rfl, hg1, hbad⟩
   obtain ⟨z0, z1, z2, z3, z4, zf⟩ := blk5 (HZ.out.grown hg1 (by intro e; cases e; omega))
   have hs1 := hg1.size
   rw [size_al] at hs1
   have hg := HG.out.trans hg1
   simp only [zeroV]
   go_wp2_with fail
   exact bodyPost_ret (v := .tuple #[zeroV, .bool false]) (by simp [results, Tryz.results35, go_sem, zeroV, z0, z1, z2, z3, z4]) rfl ⟨grown_set5 hg (Nat.le_refl _) _ _ _ _ _, rfl, hbad.same (heap_set5 _ _ _ _ _ _ _ _ (by omega))⟩
set_option maxHeartbeats 4000000 in
theorem wvalue_much {w : World} {r : Nat} {s : ByteArray} {m : Mk} {ms : List Lx} {c : Nat} (deep : Int) (h : WSt w r s m ms c) (hb : ¬ begV m = false) (hc : 8192 ≤ c) (hc2 : c ≤ 8192) :
   Calls Tryz.prog 35 #[.pointer (some ⟨r, 0, none⟩), .int .i64 deep] w (WPost (.bad m.a 5) s r w) := by
 have hlt := h.lt
 obtain ⟨c1, c4, c5, c7, cf⟩ := h.cells
 have hcs := beg_cases hb
 have hm11 : Hid (wrongE m 5 = 5) := by
   show _ = _
   unfold wrongE
   rw [if_neg (by omega)]
 have hc' : (8192 : Int) < (c : Int) + 1 := by omega
 have HS := Lib.hid (h.count ((c : Int) + 1))
 have hB : Below w.heap.size w (w.alloc (.cells zeroCs 26)) := bel_alloc (Below.refl _ _) _
 have HS2 : Hid (WSt ((w.setCell ⟨r, 7, none⟩ (.int .i64 ((c : Int) + 1))).alloc (.cells zeroCs 26)) r s m ms ((c : Int) + 1)) := HS.out.keep (bel_alloc (Below.refl _ _) _)
 have HB := Lib.hid (wbad_any HS2.out 5 5 hm11)
 have HZ : Hid (BlkAt ((w.setCell ⟨r, 7, none⟩ (.int .i64 ((c : Int) + 1))).alloc (.cells zeroCs 26)) w.heap.size 26 zeroCs) := by
   have := blkAt_new (w.setCell ⟨r, 7, none⟩ (.int .i64 ((c : Int) + 1))) zeroCs 26
   rwa [show (w.setCell ⟨r, 7, none⟩ (.int .i64 ((c : Int) + 1))).heap.size = w.heap.size from by show (w.heap.modify _ _).size = _; rw [Array.size_modify]] at this
 have HG := Lib.hid (grown_alloc (grown_set (World.grownBy.refl w (some r)) 7 (.int .i64 ((c : Int) + 1))) (.cells zeroCs 26))
 clear hb h hm11 hB
 rcases hcs with e | e | e | e | e | e
 all_goals
   rw [e] at c1
   go_enter Tryz.func35, Tryz.ntmps35
   go_wp2_with fail
   refine HB.out.mono ?_
   rintro e w1 ⟨rfl, hg1, hbad⟩
   obtain ⟨z0, z1, z2, z3, z4, zf⟩ := blk5 (HZ.out.grown hg1 (by intro e; cases e; omega))
   have hs1 := hg1.size
   rw [size_al] at hs1
   have hg := HG.out.trans hg1
   simp only [zeroV]
   go_wp2_with fail
   exact bodyPost_ret (v := .tuple #[zeroV, .bool false]) (by simp [results, Tryz.results35, go_sem, zeroV, z0, z1, z2, z3, z4]) rfl ⟨grown_set5 hg (Nat.le_refl _) _ _ _ _ _, rfl, hbad.same (heap_set5 _ _ _ _ _ _ _ _ (by omega))⟩
set_option maxHeartbeats 2000000 in
theorem wvalue_leaf {w : World} {r : Nat} {s : ByteArray} {m : Mk} {ms : List Lx} {c : Nat} (deep : Int) (h : WSt w r s m ms c) (hcs : m.k = 7 ∨ m.k = 8 ∨ m.k = 9 ∨ m.k = 10) (hc : c < 8192) :
   Calls Tryz.prog 35 #[.pointer (some ⟨r, 0, none⟩), .int .i64 deep] w (WPost (.ok (leafV m) ms (c + 1)) s r w) := by
 obtain ⟨hk, hn, ht, hcc, hf⟩ := h.cells
 have hlt := h.lt
 have H := Lib.hid h
 have hc' : ¬ (8192 : Int) < (c : Int) + 1 := by omega
 clear h
 obtain ⟨n0, n1, n2⟩ := H.out.b
 have HL := Lib.hid (show ∀ k n t, leafV m = .mk k n t [] [] → 0 ≤ k → k ≤ 255 → -9223372036854775808 ≤ n → n ≤ 9223372036854775807 → t.size ≤ maxLen → NewV w.heap.size ((w.setCell ⟨r, 7, none⟩ (.int .i64 ((c : Int) + 1))).alloc (.cells #[.int .u8 k, .int .i64 n, .string t, .slice none 0 0, .slice none 0 0] 26)) (leafV m) (.agg #[.int .u8 k, .int .i64 n, .string t, .slice none 0 0, .slice none 0 0]) from
   fun k n t he k0 k1 n0 n1 ht => by rw [he]; exact valAt_leaf _ k n t k0 k1 n0 n1 ht)
 have HS : Hid (∀ v, WSt ((w.setCell ⟨r, 7, none⟩ (.int .i64 ((c : Int) + 1))).alloc (.cells v 26)) r s m ms ((c + 1 : Nat) : Int)) := fun v => (H.out.count _).keep (bel_alloc (Below.refl _ _) _)
 have HG : Hid (∀ v, w.grownBy ((w.setCell ⟨r, 7, none⟩ (.int .i64 ((c : Int) + 1))).alloc (.cells v 26)) (some r)) := fun v => grown_alloc (grown_set (World.grownBy.refl _ _) _ _) _
 clear H
 rcases hcs with e | e | e | e
 · rw [e] at hk
   have HE : Hid (leafV m = .mk 1 1 ⟨#[]⟩ [] []) := by show _ = _; unfold leafV; rw [if_pos e]
   have h11 : m.k ≠ 11 := by omega
   clear e
   go_enter Tryz.func35, Tryz.ntmps35
   go_wp2_with fail
   exact bodyPost_ret (v := .tuple #[.agg #[.int .u8 1, .int .i64 1, .string ⟨#[]⟩, .slice none 0 0, .slice none 0 0], .bool true]) (by simp [results, Tryz.results35, go_sem]) rfl ⟨HG.out _, ⟨1, 1, ⟨#[]⟩, none, 0, 0, none, 0, 0⟩, m, rfl, HL.out _ _ _ HE.out (by decide) (by decide) (by decide) (by decide) (by decide), HS.out _, h11⟩
 · rw [e] at hk
   have HE : Hid (leafV m = .mk 1 0 ⟨#[]⟩ [] []) := by show _ = _; unfold leafV; rw [if_neg (by omega), if_pos e]
   have h11 : m.k ≠ 11 := by omega
   clear e
   go_enter Tryz.func35, Tryz.ntmps35
   go_wp2_with fail
   exact bodyPost_ret (v := .tuple #[.agg #[.int .u8 1, .int .i64 0, .string ⟨#[]⟩, .slice none 0 0, .slice none 0 0], .bool true]) (by simp [results, Tryz.results35, go_sem]) rfl ⟨HG.out _, ⟨1, 0, ⟨#[]⟩, none, 0, 0, none, 0, 0⟩, m, rfl, HL.out _ _ _ HE.out (by decide) (by decide) (by decide) (by decide) (by decide), HS.out _, h11⟩
 · rw [e] at hk
   have HE : Hid (leafV m = .mk 2 m.n ⟨#[]⟩ [] []) := by show _ = _; unfold leafV; rw [if_neg (by omega), if_neg (by omega), if_pos e]
   have h11 : m.k ≠ 11 := by omega
   clear e
   go_enter Tryz.func35, Tryz.ntmps35
   go_wp2_with fail
   exact bodyPost_ret (v := .tuple #[.agg #[.int .u8 2, .int .i64 m.n, .string ⟨#[]⟩, .slice none 0 0, .slice none 0 0], .bool true]) (by simp [results, Tryz.results35, go_sem]) rfl ⟨HG.out _, ⟨2, m.n, ⟨#[]⟩, none, 0, 0, none, 0, 0⟩, m, rfl, HL.out _ _ _ HE.out (by decide) (by decide) n0 n1 (by decide), HS.out _, h11⟩
 · rw [e] at hk
   have HE : Hid (leafV m = .mk 3 0 ⟨m.t.toArray⟩ [] []) := by show _ = _; unfold leafV; rw [if_neg (by omega), if_neg (by omega), if_neg (by omega)]; rfl
   have h11 : m.k ≠ 11 := by omega
   clear e
   go_enter Tryz.func35, Tryz.ntmps35
   go_wp2_with fail
   exact bodyPost_ret (v := .tuple #[.agg #[.int .u8 3, .int .i64 0, .string ⟨m.t.toArray⟩, .slice none 0 0, .slice none 0 0], .bool true]) (by simp [results, Tryz.results35, go_sem]) rfl ⟨HG.out _, ⟨3, 0, ⟨m.t.toArray⟩, none, 0, 0, none, 0, 0⟩, m, rfl, HL.out _ _ _ HE.out (by decide) (by decide) (by decide) (by decide) (by show m.t.length ≤ _; unfold maxLen; omega), HS.out _, h11⟩
set_option maxHeartbeats 4000000 in
theorem wvalue_deep {w : World} {r : Nat} {s : ByteArray} {m : Mk} {ms : List Lx} {c : Nat} (deep : Int) (h : WSt w r s m ms c) (hcs : m.k = 1 ∨ m.k = 3) (hc : c < 8192) (hd : 12 ≤ deep) :
   Calls Tryz.prog 35 #[.pointer (some ⟨r, 0, none⟩), .int .i64 deep] w (WPost (.bad m.a 8) s r w) := by
 have hlt := h.lt
 obtain ⟨c1, c4, c5, c7, cf⟩ := h.cells
 have hm11 : Hid (wrongE m 8 = 8) := by
   show _ = _
   unfold wrongE
   rw [if_neg (by omega)]
 have hc' : ¬ (8192 : Int) < (c : Int) + 1 := by omega
 have HS := Lib.hid (h.count ((c : Int) + 1))
 have HS2 : Hid (WSt ((w.setCell ⟨r, 7, none⟩ (.int .i64 ((c : Int) + 1))).alloc (.cells zeroCs 26)) r s m ms ((c : Int) + 1)) := HS.out.keep (bel_alloc (Below.refl _ _) _)
 have HB := Lib.hid (wbad_any HS2.out 8 8 hm11)
 have HZ : Hid (BlkAt ((w.setCell ⟨r, 7, none⟩ (.int .i64 ((c : Int) + 1))).alloc (.cells zeroCs 26)) w.heap.size 26 zeroCs) := by
   have := blkAt_new (w.setCell ⟨r, 7, none⟩ (.int .i64 ((c : Int) + 1))) zeroCs 26
   rwa [show (w.setCell ⟨r, 7, none⟩ (.int .i64 ((c : Int) + 1))).heap.size = w.heap.size from by show (w.heap.modify _ _).size = _; rw [Array.size_modify]] at this
 have HG := Lib.hid (grown_alloc (grown_set (World.grownBy.refl w (some r)) 7 (.int .i64 ((c : Int) + 1))) (.cells zeroCs 26))
 clear h hm11
 rcases hcs with e | e
 all_goals
   rw [e] at c1
   go_enter Tryz.func35, Tryz.ntmps35
   go_wp2_with fail
   refine HB.out.mono ?_
   rintro e w1 ⟨rfl, hg1, hbad⟩
   obtain ⟨z0, z1, z2, z3, z4, zf⟩ := blk5 (HZ.out.grown hg1 (by intro e; cases e; omega))
   have hs1 := hg1.size
   rw [size_al] at hs1
   have hg := HG.out.trans hg1
   simp only [zeroV]
   go_wp2_with fail
   exact bodyPost_ret (v := .tuple #[zeroV, .bool false]) (by simp [results, Tryz.results35, go_sem, zeroV, z0, z1, z2, z3, z4]) rfl ⟨grown_set5 hg (Nat.le_refl _) _ _ _ _ _, rfl, hbad.same (heap_set5 _ _ _ _ _ _ _ _ (by omega))⟩
end

section
set_option maxRecDepth 100000
open Go.RowKit
theorem add_zero_at (b j : Nat) : (⟨b, 0, none⟩ : Addr).add j = ⟨b, j, none⟩ := by unfold Addr.add; split <;> simp_all
def WVal (s : ByteArray) (r d : Nat) (k : Int) : Prop := ∀ (w : World) (m : Mk) (ms : List Lx) (c : Nat), WSt w r s m ms c → c ≤ 8192 → Calls Tryz.prog 35 #[.pointer (some ⟨r, 0, none⟩), .int .i64 k] w (WPost (valP d m ms c) s r w)
set_option maxHeartbeats 8000000 in
theorem wlist_any {w : World} {r d : Nat} {s : ByteArray} {m : Mk} {ms : List Lx} {c : Nat} (deep : Int) (hd0 : 0 ≤ deep) (hd1 : deep ≤ 12) (hs : s.size ≤ 65536) (hV : WVal s r d (deep + 1)) (h : WSt w r s m ms c) (hk : m.k ≠ 11) (hc : c ≤ 8192) (R : PR JV) (hR : Hid (listP (valP d) ms c = R)) :
   Calls Tryz.prog 71 #[.pointer (some ⟨r, 0, none⟩), .int .i64 deep] w (WPost R s r w) := by
 have hlt := h.lt
 have hrb0 : BlkAt ((w.alloc (.cells zeroCs 26)).alloc (.cells #[.int .u8 4, .int .i64 0, .string ⟨#[]⟩, .slice none 0 0, .slice none 0 0] 26)) w.heap.size 26 zeroCs := (blkAt_new w zeroCs _).alloc _
 have hvb0 : BlkAt ((w.alloc (.cells zeroCs 26)).alloc (.cells #[.int .u8 4, .int .i64 0, .string ⟨#[]⟩, .slice none 0 0, .slice none 0 0] 26)) (w.heap.size + 1) 26 #[.int .u8 4, .int .i64 0, .string ⟨#[]⟩, .slice none 0 0, .slice none 0 0] := by
   have := blkAt_new (w.alloc (.cells zeroCs 26)) #[.int .u8 4, .int .i64 0, .string ⟨#[]⟩, .slice none 0 0, .slice none 0 0] 26
   rwa [size_al] at this
 have hb0 : Below w.heap.size w ((w.alloc (.cells zeroCs 26)).alloc (.cells #[.int .u8 4, .int .i64 0, .string ⟨#[]⟩, .slice none 0 0, .slice none 0 0] 26)) := bel_alloc (bel_alloc (Below.refl _ _) _) _
 have hs0 : (((w.alloc (.cells zeroCs 26)).alloc (.cells #[.int .u8 4, .int .i64 0, .string ⟨#[]⟩, .slice none 0 0, .slice none 0 0] 26))).heap.size = w.heap.size + 2 := by rw [size_al, size_al]
 match ms with
 | [] => exact absurd h.nonil hk
 | .err p e :: tl =>
   have hr := hR.out
   subst hr
   have HN := Lib.hid (wnext_err hs (h.keep hb0) hk (Lib.hid rfl))
   have HRB := Lib.hid hrb0
   have HB0 := Lib.hid hb0
   clear hR h hb0 hrb0 hvb0 hs0
   go_enter Tryz.func71, Tryz.ntmps71
   go_wp2_with fail
   refine HN.out.mono ?_
   rintro e' w' ⟨rfl, hg, hb⟩
   obtain ⟨z0, z1, z2, z3, z4, zf⟩ := blk5 (HRB.out.grown hg (by intro e; cases e; omega))
   have hg' : w.grownBy w' (some r) := (grown_of HB0.out _).trans hg
   go_wp2_with fail
   exact bodyPost_ret (v := .tuple #[zeroV, .bool false]) (by simp [results, Tryz.results71, go_sem, zeroV, z0, z1, z2, z3, z4]) rfl ⟨grown_set5 hg' (Nat.le_refl _) _ _ _ _ _, rfl, hb.same (heap_set5 _ _ _ _ _ _ _ _ (by omega))⟩
 | .tok m2 :: r2 =>
   have HN := Lib.hid (wnext_tok hs (h.keep hb0) hk (Lib.hid rfl))
   have HRB := Lib.hid hrb0
   have HVB := Lib.hid hvb0
   have HB0 := Lib.hid hb0
   have HS0 := Lib.hid hs0
   have hr := hR.out
   unfold listP at hr
   dsimp only [nextL] at hr
   by_cases h4 : m2.k = 4
   · rw [if_pos h4] at hr
     subst hr
     have hb4 : (m2.k == 4) = true := by rw [h4]; rfl
     have h11 : m2.k ≠ 11 := by omega
     clear hR h hb0 hrb0 hvb0 hs0 h4
     go_enter Tryz.func71, Tryz.ntmps71
     go_wp2_with fail
     refine HN.out.mono ?_
     rintro e' w' ⟨rfl, hg, hst⟩
     obtain ⟨z0, z1, z2, z3, z4, zf⟩ := blk5 (HRB.out.grown hg (by intro e; cases e; omega))
     obtain ⟨y0, y1, y2, y3, y4, yf⟩ := blk5 (HVB.out.grown hg (by intro e; cases e; omega))
     have hg' : w.grownBy w' (some r) := (grown_of HB0.out _).trans hg
     have hkc := hst.kcell
     have HST := Lib.hid hst
     clear hst
     go_wp2_with fail
     exact bodyPost_ret (v := .tuple #[.agg #[.int .u8 4, .int .i64 0, .string ⟨#[]⟩, .slice none 0 0, .slice none 0 0], .bool true]) (by simp [results, Tryz.results71, go_sem, z0, z1, z2, z3, z4]) rfl ⟨grown_set5 hg' (Nat.le_refl _) _ _ _ _ _, ⟨4, 0, ⟨#[]⟩, none, 0, 0, none, 0, 0⟩, m2, rfl, valAt_leaf _ 4 0 ⟨#[]⟩ (by decide) (by decide) (by decide) (by decide) (by decide), HST.out.same (heap_set5 _ _ _ _ _ _ _ _ (by omega)), h11⟩
   · rw [if_neg h4] at hr
     have HRR : Hid (itemsP (valP d) (r2.length + 1) m2 r2 c [] = R) := hr
     have hb4 : (m2.k == 4) = false := beq_eq_false_iff_ne.2 h4
     obtain ⟨i0, hi, hz0, hz1, hz2⟩ := info_parts infoVal
     have HJ := Lib.hid hi
     have HJ0 := Lib.hid hz0
     have HJ1 := Lib.hid hz1
     have HJ2 := Lib.hid hz2
     clear hr hR h hb0 hrb0 hvb0 hs0 h4 hi hz0 hz1 hz2
     go_enter Tryz.func71, Tryz.ntmps71
     go_wp2_with fail
     refine HN.out.mono ?_
     rintro e' w' ⟨rfl, hg, hst⟩
     have HZB : Hid (BlkAt w' w.heap.size 26 zeroCs) := HRB.out.grown hg (by intro e; cases e; omega)
     have HYB : Hid (BlkAt w' (w.heap.size + 1) 26 #[.int .u8 4, .int .i64 0, .string ⟨#[]⟩, .slice none 0 0, .slice none 0 0]) := HVB.out.grown hg (by intro e; cases e; omega)
     have hg' : w.grownBy w' (some r) := (grown_of HB0.out _).trans hg
     have hs2 : w.heap.size + 2 ≤ w'.heap.size := by have := hg.size; rw [HS0.out] at this; exact this
     have hkc := hst.kcell
     have HST := Lib.hid hst
     clear hst hg HN HRB HVB HB0 HS0
     go_wp2_with fail
     clear hkc
     go_loopg [7, 8] r2.length (fun gk u1 u2 wr => ∃ (mk : Mk) (ms' : List Lx) (c' : Nat) (xs : List XI) (a : Option Addr) (l cp f : Nat), gk = ms'.length ∧ ms'.length < f ∧ xs.length ≤ c' ∧ c' ≤ 8192 ∧ w.heap.size + 2 ≤ wr.heap.size ∧ Hid (WSt wr r s mk ms' c') ∧ Hid (BlkAt wr w.heap.size 26 zeroCs) ∧
       Hid (BlkAt wr (w.heap.size + 1) 26 #[.int .u8 4, .int .i64 0, .string ⟨#[]⟩, .slice none 0 0, .slice a l cp]) ∧ Hid (ItemsOwn wr (w.heap.size + 2) (.slice a l cp) xs) ∧ Hid (w.grownBy wr (some r)) ∧ Hid (itemsP (valP d) f mk ms' c' (xs.map Prod.snd) = R))
     case atStart => exact ⟨m2, r2, c, [], none, 0, 0, r2.length + 1, rfl, by omega, by simp, hc, hs2, HST, HZB, HYB, ItemsOwn.nil _ _, hg', HRR⟩
     case round =>
       obtain ⟨mk, ms', c', xs, a, l, cp, f, rfl, hf, hxs, hc', hs3, HSt, HZb, HYb, HIt, HGr, HRr⟩ := hrel
       clear HST HZB HYB hg' HRR hs2
       obtain ⟨f', rfl⟩ : ∃ f', f = f' + 1 := ⟨f - 1, by omega⟩
       obtain ⟨R1, hR1⟩ : ∃ R1, valP d mk ms' c' = R1 := ⟨_, rfl⟩
       have HC := Lib.hid (hV wr mk ms' c' HSt.out hc')
       rw [hR1] at HC
       have hstep := HRr.out
       rw [itemsP, hR1] at hstep
       cases R1 with
       | bad p er =>
         dsimp only at hstep
         subst hstep
         clear hR1 HRr
         go_wp2_with fail
         refine HC.out.mono ?_
         rintro e' w1 ⟨hg1, rfl, hbad⟩
         have hs1 := hg1.size
         have hZ1 := HZb.out.grown hg1 (by intro e; cases e; omega)
         obtain ⟨z0, z1, z2, z3, z4, zf⟩ := blk5 (hZ1.alloc (.cells #[.int .u8 0, .int .i64 0, .string ⟨#[]⟩, .slice none 0 0, .slice none 0 0] 26))
         have hg2 := HGr.out.trans hg1
         simp only [zeroV]
         go_wp2_with fail
         have hr1 : r < w1.heap.size := by omega
         exact bodyPost_ret (v := .tuple #[zeroV, .bool false]) (by simp [results, Tryz.results71, go_sem, zeroV, z0, z1, z2, z3, z4]) rfl ⟨grown_set5 (grown_alloc hg2 _) (Nat.le_refl _) _ _ _ _ _, rfl, hbad.same ((heap_set5 _ _ _ _ _ _ _ _ (by omega)).trans ((bel_alloc (Below.refl w1.heap.size w1) _).block r hr1))⟩
       | ok V ms1 c1 =>
         dsimp only at hstep
         obtain ⟨hcnt1, hcnt2⟩ := val_count d _ _ _ _ _ _ hR1
         obtain ⟨pre1, -, hpre, -⟩ := val_takes d _ _ _ _ _ _ hR1
         have hml : ms'.length = pre1.length + ms1.length := by rw [hpre, List.length_append]
         have HML := Lib.hid hml
         have HSTEP := Lib.hid hstep
         clear hR1 HRr hstep hpre hml
         go_wp2_with fail
         refine HC.out.mono ?_
         rintro e' w1 ⟨hg1, ⟨xk, xn, xt, xa, xl, xc, xb, xm, xe⟩, m1, rfl, hnew, hst1, hk1⟩
         simp only [VC.val]
         have hs1 := hg1.size
         have hbA : Below w1.heap.size w1 (w1.alloc (.cells #[.int .u8 xk, .int .i64 xn, .string xt, .slice xa xl xc, .slice xb xm xe] 26)) := bel_alloc (Below.refl _ _) _
         have HZ1 : Hid (BlkAt (w1.alloc (.cells #[.int .u8 xk, .int .i64 xn, .string xt, .slice xa xl xc, .slice xb xm xe] 26)) w.heap.size 26 zeroCs) := (HZb.out.grown hg1 (by intro e; cases e; omega)).alloc _
         have HY1 : Hid (BlkAt (w1.alloc (.cells #[.int .u8 xk, .int .i64 xn, .string xt, .slice xa xl xc, .slice xb xm xe] 26)) (w.heap.size + 1) 26 #[.int .u8 4, .int .i64 0, .string ⟨#[]⟩, .slice none 0 0, .slice a l cp]) := (HYb.out.grown hg1 (by intro e; cases e; omega)).alloc _
         have HX1 : Hid (BlkAt (w1.alloc (.cells #[.int .u8 xk, .int .i64 xn, .string xt, .slice xa xl xc, .slice xb xm xe] 26)) w1.heap.size 26 #[.int .u8 xk, .int .i64 xn, .string xt, .slice xa xl xc, .slice xb xm xe]) := blkAt_new w1 _ _
         have HI1 : Hid (ItemsOwn w1 (w.heap.size + 2) (.slice a l cp) xs) := HIt.out.kept (by omega) hg1
         have HG1 : Hid (w.grownBy (w1.alloc (.cells #[.int .u8 xk, .int .i64 xn, .string xt, .slice xa xl xc, .slice xb xm xe] 26)) (some r)) := grown_alloc (HGr.out.trans hg1) _
         have HGq := Lib.hid hg1
         have hst2 := hst1.keep hbA
         have HNew := Lib.hid hnew
         have hsA : (w1.alloc (.cells #[.int .u8 xk, .int .i64 xn, .string xt, .slice xa xl xc, .slice xb xm xe] 26)).heap.size = w1.heap.size + 1 := size_al _ _
         have hown1 := World.ownsRow.alloc HI1.out.1 (.cells #[.int .u8 xk, .int .i64 xn, .string xt, .slice xa xl xc, .slice xb xm xe] 26)
         have HOW1 := Lib.hid hown1
         have HWA := Lib.hid (show ∀ k, k < w1.heap.size → (w1.alloc (.cells #[.int .u8 xk, .int .i64 xn, .string xt, .slice xa xl xc, .slice xb xm xe] 26)).heap[k]? = w1.heap[k]? from fun k hk => hbA.block k hk)
         clear hg1 hnew HC hst1 hbA hown1
         have hlow1 : ∀ k, k < w.heap.size + 2 → (Value.slice a l cp).ownBlock ≠ some k := fun k hk e => by have := (World.ownsRow.lt HI1.out.1 k e).1; omega
         have HLO := Lib.hid hlow1
         clear hlow1
         match ms1 with
         | [] => exact absurd hst2.nonil hk1
         | .err p e :: tl =>
           have hfin := HSTEP.out
           dsimp only [moreP, nextL] at hfin
           subst hfin
           have HNX := Lib.hid (wnext_err hs hst2 hk1 (Lib.hid rfl))
           clear hst2
           go_wp2_with fail
           generalize w1.alloc (.cells #[.int .u8 xk, .int .i64 xn, .string xt, .slice xa xl xc, .slice xb xm xe] 26) = wA at HNX HZ1 HY1 HX1 HG1 hsA HOW1 HWA ⊢
           refine HNX.out.mono ?_
           rintro e' w2 ⟨rfl, hg2, hbad⟩
           have hs4 := hg2.size
           obtain ⟨z0, z1, z2, z3, z4, zf⟩ := blk5 (HZ1.out.grown hg2 (by intro e; cases e; omega))
           have hg3 := HG1.out.trans hg2
           go_wp2_with fail
           exact bodyPost_ret (v := .tuple #[zeroV, .bool false]) (by simp [results, Tryz.results71, go_sem, zeroV, z0, z1, z2, z3, z4]) rfl ⟨grown_set5 hg3 (Nat.le_refl _) _ _ _ _ _, rfl, hbad.same (heap_set5 _ _ _ _ _ _ _ _ (by omega))⟩
         | .tok m2 :: r2 =>
           have hfin := HSTEP.out
           dsimp only [moreP, nextL] at hfin
           have HFIN := Lib.hid hfin
           have HNX := Lib.hid (wnext_tok hs hst2 hk1 (Lib.hid rfl))
           clear hst2 hfin HSTEP
           go_wp2_with fail
           generalize w1.alloc (.cells #[.int .u8 xk, .int .i64 xn, .string xt, .slice xa xl xc, .slice xb xm xe] 26) = wA at HNX HZ1 HY1 HX1 HG1 hsA HOW1 HWA ⊢
           refine HNX.out.mono ?_
           rintro e' w2 ⟨rfl, hg2, hst3⟩
           have hs4 := hg2.size
           have HZ2 : Hid (BlkAt w2 w.heap.size 26 zeroCs) := HZ1.out.grown hg2 (by intro e; cases e; omega)
           have HY2 : Hid (BlkAt w2 (w.heap.size + 1) 26 #[.int .u8 4, .int .i64 0, .string ⟨#[]⟩, .slice none 0 0, .slice a l cp]) := HY1.out.grown hg2 (by intro e; cases e; omega)
           have HG2 : Hid (w.grownBy w2 (some r)) := HG1.out.trans hg2
           obtain ⟨x0, x1, x2, x3, x4, -⟩ := blk5 (HX1.out.grown hg2 (by intro e; cases e; omega))
           obtain ⟨-, -, -, -, y4, yf⟩ := blk5 HY2.out
           have HST3 := Lib.hid hst3
           have hown2 := HOW1.out.kept hg2 (by
             by_cases e : (Value.slice a l cp).ownBlock = none
             · exact .inl e
             · exact .inr (fun e2 => HLO.out r (by omega) e2))
           have HWB := Lib.hid (show ∀ k, k < w1.heap.size → w.heap.size + 2 ≤ k → w2.heap[k]? = w1.heap[k]? from fun k hk hk2 => (hg2.block k (by omega) (fun e => by cases e; omega)).trans (HWA.out k hk))
           have hsl : xs.length = l ∨ True := .inr trivial
           clear hg2 hst3 HZ1 HY1 HG1 HX1 HOW1 HWA hsl
           go_wp2_with (at_builtin; refine wpList_append_own_at _ rfl _ _ 24 rfl (w.heap.size + 2) 26 i0 zeroV 5 80 Tryz.underlying24 HJ.out HJ0.out HJ1.out HJ2.out rfl (by decide) _ _ _ rfl (World.ownsRow.alloc hown2 _) ⟨w2.heap.size, 0, none⟩ 1 1 [.int .u8 xk, .int .i64 xn, .string xt, .slice xa xl xc, .slice xb xm xe] rfl rfl ?c1 ?c2 ?c3 ?c4 ?c5 ?_)
           case c1 =>
             intro j u hj
             rw [add_zero_at, cell_al_eq _ _ _ _ _ rfl]
             simpa using hj
           case c2 =>
             intro u hu
             simp only [List.mem_cons, List.not_mem_nil, or_false] at hu
             rcases hu with rfl | rfl | rfl | rfl | rfl <;> rfl
           case c3 => unfold maxLen; omega
           case c4 => omega
           case c5 => rw [size_al]; omega
           intro v' w4 hown4 hgrow _ hblk
           obtain ⟨g', cp', rfl, -, -⟩ := World.ownsRow.form hown4 (by omega)
           have hwa : ∀ k, k < w2.heap.size → (w2.alloc (.cells #[.int .u8 xk, .int .i64 xn, .string xt, .slice xa xl xc, .slice xb xm xe] 26)).heap[k]? = w2.heap[k]? := fun k hk => (bel_alloc (Below.refl _ _) _).block k hk
           have hwb : ∀ k, k < w2.heap.size → (Value.slice a l cp).ownBlock ≠ some k → w4.heap[k]? = w2.heap[k]? := fun k hk hne => (hgrow.block k (by rw [size_al]; omega) (fun e => hne e.symm)).trans (hwa k hk)
           have hs5 : w2.heap.size + 1 ≤ w4.heap.size := by have := hgrow.size; rw [size_al] at this; exact this
           have HZ4 : Hid (BlkAt w4 w.heap.size 26 zeroCs) := (hwb _ (by omega) (HLO.out _ (by omega))).trans HZ2.out
           have HY4 : Hid (BlkAt w4 (w.heap.size + 1) 26 #[.int .u8 4, .int .i64 0, .string ⟨#[]⟩, .slice none 0 0, .slice a l cp]) := (hwb _ (by omega) (HLO.out _ (by omega))).trans HY2.out
           have HS4 : Hid (WSt w4 r s m2 r2 c1) := HST3.out.same (hwb _ (by omega) (HLO.out _ (by omega)))
           have HG4 : Hid (w.grownBy w4 (some r)) := ⟨hgrow.os.trans HG2.out.os, hgrow.tape.trans HG2.out.tape, hgrow.output.trans HG2.out.output, by omega, fun k hk hne => (hwb k (by omega) (HLO.out k (by omega))).trans (HG2.out.block k hk hne)⟩
           have HI4 : Hid (ItemsOwn w4 (w.heap.size + 2) (.slice (some ⟨g', 0, none⟩) (xs.length + 1) cp') (xs ++ [(⟨xk, xn, xt, xa, xl, xc, xb, xm, xe⟩, V)])) :=
             ItemsOwn.snoc HIt.out HNew.out hs3 hs1 (hblk.imp_right fun e => ⟨_, e, by omega⟩) hown4 (fun k hk hB hne => (hwb k (by omega) hne).trans (HWB.out k hk hB)) (fun k hk hB => HGq.out.block k hk (fun e => by cases e; omega))
           obtain ⟨q0, q1, q2, q3, q4, qf⟩ := blk5 HY4.out
           obtain ⟨z0, z1, z2, z3, z4, zf⟩ := blk5 HZ4.out
           have hkc := HS4.out.kcell
           have hne1 : w.heap.size + 1 ≠ r := by omega
           have hrl : r < w4.heap.size := by omega
           have hwc : ∀ k, k ≠ w.heap.size + 1 → (w4.setCell ⟨w.heap.size + 1, 4, none⟩ (.slice (some ⟨g', 0, none⟩) (xs.length + 1) cp')).heap[k]? = w4.heap[k]? := fun k hk => Below.heap_setCell _ _ _ _ hk
           have HZ5 : Hid (BlkAt (w4.setCell ⟨w.heap.size + 1, 4, none⟩ (.slice (some ⟨g', 0, none⟩) (xs.length + 1) cp')) w.heap.size 26 zeroCs) := (hwc _ (by omega)).trans HZ4.out
           have HY5 : Hid (BlkAt (w4.setCell ⟨w.heap.size + 1, 4, none⟩ (.slice (some ⟨g', 0, none⟩) (xs.length + 1) cp')) (w.heap.size + 1) 26 #[.int .u8 4, .int .i64 0, .string ⟨#[]⟩, .slice none 0 0, (.slice (some ⟨g', 0, none⟩) (xs.length + 1) cp')]) := BlkAt.set HY4.out 4 _
           have HS5 : Hid (WSt (w4.setCell ⟨w.heap.size + 1, 4, none⟩ (.slice (some ⟨g', 0, none⟩) (xs.length + 1) cp')) r s m2 r2 c1) := HS4.out.same (hwc _ (by omega))
           have HG5 : Hid (w.grownBy (w4.setCell ⟨w.heap.size + 1, 4, none⟩ (.slice (some ⟨g', 0, none⟩) (xs.length + 1) cp')) (some r)) := grown_set_new HG4.out (by omega) _ _
           have HI5 : Hid (ItemsOwn (w4.setCell ⟨w.heap.size + 1, 4, none⟩ (.slice (some ⟨g', 0, none⟩) (xs.length + 1) cp')) (w.heap.size + 2) (.slice (some ⟨g', 0, none⟩) (xs.length + 1) cp') (xs ++ [(⟨xk, xn, xt, xa, xl, xc, xb, xm, xe⟩, V)])) := HI4.out.set (by omega) _ _
           have hs6 : w2.heap.size + 1 ≤ (w4.setCell ⟨w.heap.size + 1, 4, none⟩ (.slice (some ⟨g', 0, none⟩) (xs.length + 1) cp')).heap.size := by show _ ≤ (w4.heap.modify _ _).size; rw [Array.size_modify]; exact hs5
           clear hown4 hgrow hblk hwa hwb hwc HZ2 HY2 HST3 HG2 HIt HNew HGq HWB HI1 HG4 HI4 x0 x1 x2 x3 x4 y4 yf HGr HYb HZb HSt
           by_cases h4 : m2.k = 4
           · have hb4 : (m2.k == 4) = true := by rw [h4]; rfl
             have hfin := HFIN.out
             rw [if_pos h4] at hfin
             subst hfin
             have h11 : m2.k ≠ 11 := by omega
             clear h4 HFIN
             go_wp2_with fail
             have hnew : NewV w.heap.size ((((((w4.setCell ⟨w.heap.size + 1, 4, none⟩ (.slice (some ⟨g', 0, none⟩) (xs.length + 1) cp')).setCell ⟨w.heap.size, 0, none⟩ (.int .u8 4)).setCell ⟨w.heap.size, 1, none⟩ (.int .i64 0)).setCell ⟨w.heap.size, 2, none⟩ (.string ⟨#[]⟩)).setCell ⟨w.heap.size, 3, none⟩ (.slice none 0 0)).setCell ⟨w.heap.size, 4, none⟩ (.slice (some ⟨g', 0, none⟩) (xs.length + 1) cp')) (listV (xs.map Prod.snd ++ [V])) (.agg #[.int .u8 4, .int .i64 0, .string ⟨#[]⟩, .slice none 0 0, (.slice (some ⟨g', 0, none⟩) (xs.length + 1) cp')]) := by
               have hout := HI5.out.out (by rw [List.length_append]; simp; omega)
               rw [List.map_append] at hout
               exact valAt_mk (by decide) (by decide) (by decide) (by decide) (by decide) (strsAt_nil _) (hout.carry fun k hk hP => ⟨offB_none.2 (by have := offB_none.1 hP; omega), heap_set5 _ _ _ _ _ _ _ _ (by have := offB_none.1 hP; omega)⟩)
             exact bodyPost_ret (v := .tuple #[.agg #[.int .u8 4, .int .i64 0, .string ⟨#[]⟩, .slice none 0 0, (.slice (some ⟨g', 0, none⟩) (xs.length + 1) cp')], .bool true]) (by simp [results, Tryz.results71, go_sem, z0, z1, z2, z3, z4]) rfl ⟨grown_set5 HG5.out (Nat.le_refl _) _ _ _ _ _, ⟨4, 0, ⟨#[]⟩, none, 0, 0, some ⟨g', 0, none⟩, xs.length + 1, cp'⟩, m2, rfl, hnew, HS5.out.same (heap_set5 _ _ _ _ _ _ _ _ (by omega)), h11⟩
           · have hb4 : (m2.k == 4) = false := beq_eq_false_iff_ne.2 h4
             by_cases h5 : m2.k = 5
             · have hb5 : (m2.k != 5) = false := by rw [h5]; rfl
               have hfin := HFIN.out
               rw [if_neg h4, if_pos h5] at hfin
               have h11 : m2.k ≠ 11 := by omega
               have hst6 := HS5.out
               match r2 with
               | [] => exact absurd hst6.nonil h11
               | .err p e :: tl =>
                 dsimp only [nextL] at hfin
                 subst hfin
                 have HNX := Lib.hid (wnext_err hs hst6 h11 (Lib.hid rfl))
                 clear h4 h5 HFIN hst6
                 go_wp2_with fail
                 generalize (w4.setCell ⟨w.heap.size + 1, 4, none⟩ (.slice (some ⟨g', 0, none⟩) (xs.length + 1) cp')) = w5 at HNX HZ5 HG5 hs6 ⊢
                 refine HNX.out.mono ?_
                 rintro e' w6 ⟨rfl, hg6, hbad⟩
                 have hs7 := hg6.size
                 obtain ⟨z0, z1, z2, z3, z4, zf⟩ := blk5 (HZ5.out.grown hg6 (by intro e; cases e; omega))
                 have hg7 := HG5.out.trans hg6
                 go_wp2_with fail
                 exact bodyPost_ret (v := .tuple #[zeroV, .bool false]) (by simp [results, Tryz.results71, go_sem, zeroV, z0, z1, z2, z3, z4]) rfl ⟨grown_set5 hg7 (Nat.le_refl _) _ _ _ _ _, rfl, hbad.same (heap_set5 _ _ _ _ _ _ _ _ (by omega))⟩
               | .tok m3 :: r3 =>
                 dsimp only [nextL] at hfin
                 have HFN := Lib.hid hfin
                 have HNX := Lib.hid (wnext_tok hs hst6 h11 (Lib.hid rfl))
                 have hml := HML.out
                 simp only [List.length_cons] at hml
                 clear h4 h5 HFIN hst6 hfin
                 go_wp2_with fail
                 generalize (w4.setCell ⟨w.heap.size + 1, 4, none⟩ (.slice (some ⟨g', 0, none⟩) (xs.length + 1) cp')) = w5 at HNX HZ5 HY5 HI5 HG5 hs6 ⊢
                 refine HNX.out.mono ?_
                 rintro e' w6 ⟨rfl, hg6, hst7⟩
                 have hs7 := hg6.size
                 have HZ6 : Hid (BlkAt w6 w.heap.size 26 zeroCs) := HZ5.out.grown hg6 (by intro e; cases e; omega)
                 have HY6 : Hid (BlkAt w6 (w.heap.size + 1) 26 #[.int .u8 4, .int .i64 0, .string ⟨#[]⟩, .slice none 0 0, (.slice (some ⟨g', 0, none⟩) (xs.length + 1) cp')]) := HY5.out.grown hg6 (by intro e; cases e; omega)
                 have HG6 : Hid (w.grownBy w6 (some r)) := HG5.out.trans hg6
                 have HI6 : Hid (ItemsOwn w6 (w.heap.size + 2) (.slice (some ⟨g', 0, none⟩) (xs.length + 1) cp') (xs ++ [(⟨xk, xn, xt, xa, xl, xc, xb, xm, xe⟩, V)])) := HI5.out.kept (by omega) hg6
                 have HST := Lib.hid hst7
                 clear hst7
                 go_wp2_with fail
                 go_roundg r3.length
                 case rel => exact ⟨m3, r3, c1, xs ++ [(⟨xk, xn, xt, xa, xl, xc, xb, xm, xe⟩, V)], _, _, _, f', rfl, by omega, by rw [List.length_append, List.length_singleton]; omega, hcnt2, by omega, HST, HZ6, HY6, HI6, HG6, by rw [List.map_append]; exact HFN⟩
                 case measure => omega
             · have hb5 : (m2.k != 5) = true := by rw [bne_iff_ne]; exact h5
               have hfin := HFIN.out
               rw [if_neg h4, if_neg h5] at hfin
               obtain ⟨v, hv⟩ : ∃ v, wrongE m2 3 = v := ⟨_, rfl⟩
               rw [hv] at hfin
               subst hfin
               have HBD := Lib.hid (wbad_any HS5.out 3 v hv)
               clear h4 h5 HFIN hv
               go_wp2_with fail
               generalize (w4.setCell ⟨w.heap.size + 1, 4, none⟩ (.slice (some ⟨g', 0, none⟩) (xs.length + 1) cp')) = w5 at HBD HZ5 HG5 hs6 ⊢
               refine HBD.out.mono ?_
               rintro e' w6 ⟨rfl, hg6, hbad⟩
               have hs7 := hg6.size
               obtain ⟨z0, z1, z2, z3, z4, zf⟩ := blk5 (HZ5.out.grown hg6 (by intro e; cases e; omega))
               have hg7 := HG5.out.trans hg6
               simp only [zeroV]
               go_wp2_with fail
               exact bodyPost_ret (v := .tuple #[zeroV, .bool false]) (by simp [results, Tryz.results71, go_sem, zeroV, z0, z1, z2, z3, z4]) rfl ⟨grown_set5 hg7 (Nat.le_refl _) _ _ _ _ _, rfl, hbad.same (heap_set5 _ _ _ _ _ _ _ _ (by omega))⟩
end
end Go.Proofs.YtmggmpigpiaagaaGreatDoor
