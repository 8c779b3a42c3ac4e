/-
  read.tokens.next, walked.
-/
import Derived.Test.YtfdecbfcddkoiaaGreatDoorReadNext
import Derived.Deep.DrawnRows
namespace Go.Proofs.YtfdecbfcddkoiaaGreatDoor
open Go.RowKit
attribute [local go_sem ↓] Go.wp_at_zero Go.wp_at_succ

theorem blanks_idem (l : List UInt8) : blanks (l.drop (blanks l)) = 0 := by
  match h : l.drop (blanks l) with
  | [] => rfl
  | c :: r => exact blanks_zero r (blanks_head l c r h)
theorem nextM_skip (s : List UInt8) (z : Nat) : nextM s (z + blanks (s.drop z)) = nextM s z := by
  unfold nextM tokB
  rw [← List.drop_drop, blanks_idem, List.drop_zero, Nat.add_zero]
theorem grown_Below {B w w' : World} {r : Nat} (hB : Below B.heap.size B w) (hr : B.heap.size ≤ r) (hg : w.grownBy w' (some r)) : Below B.heap.size B w' := by
  refine ⟨hg.os.trans hB.os, hg.tape.trans hB.tape, hg.output.trans hB.output, Nat.le_trans hB.size hg.size, fun k hk => ?_⟩
  rw [hg.block k (Nat.lt_of_lt_of_le hk hB.size) (fun e => ?_)]
  · exact hB.block k hk
  · have : k = r := by simpa using e
    omega
theorem rd_stored {W : World} {r : Nat} {s : ByteArray} {q k0 x0 z0 n0 : Int} {t0 : ByteArray} {z c d : Int} (h : RdAt W r s q k0 x0 z0 n0 t0 z c d) (k x y n : Int) (t : ByteArray) :
    RdAt ((((((W.setCell ⟨r, 2, none⟩ (.int .u8 k)).setCell ⟨r, 3, none⟩ (.int .i64 x)).setCell ⟨r, 4, none⟩ (.int .i64 y)).setCell ⟨r, 5, none⟩ (.int .i64 n)).setCell ⟨r, 6, none⟩ (.string t)).setCell ⟨r, 7, none⟩ (.int .i64 y)) r s q k x y n t y c d :=
  (((((BlkAt.set h 2 (.int .u8 k)).set 3 (.int .i64 x)).set 4 (.int .i64 y)).set 5 (.int .i64 n)).set 6 (.string t)).set 7 (.int .i64 y)
theorem RdAt.drew {W : World} {r : Nat} {s : ByteArray} {q k0 x0 z0 n0 : Int} {t0 : ByteArray} {z c d : Int} (h : RdAt W r s q k0 x0 z0 n0 t0 z c d) : RdAt W.drew r s q k0 x0 z0 n0 t0 z c d := h
theorem grown_stored {w W : World} {r : Nat} (h : w.grownBy W (some r)) (k x y n : Int) (t : ByteArray) :
    w.grownBy ((((((W.setCell ⟨r, 2, none⟩ (.int .u8 k)).setCell ⟨r, 3, none⟩ (.int .i64 x)).setCell ⟨r, 4, none⟩ (.int .i64 y)).setCell ⟨r, 5, none⟩ (.int .i64 n)).setCell ⟨r, 6, none⟩ (.string t)).setCell ⟨r, 7, none⟩ (.int .i64 y)) (some r) :=
  grown_set (grown_set (grown_set (grown_set (grown_set (grown_set h _ _) _ _) _ _) _ _) _ _) _ _
/-- What the reading's next step leaves behind. -/
def NextPost (s : ByteArray) (r z zz : Nat) (k0 x0 z0 n0 : Int) (t0 : ByteArray) (c d k x y n : Int) (t : ByteArray) (er : Int) (w : World) (e : Ending) (w' : World) : Prop :=
  e = .returned (.int .i64 er) ∧ w.grownBy w' (some r) ∧ (er ≠ 0 → RdAt w' r s zz k0 x0 z0 n0 t0 z c d) ∧ (er = 0 → RdAt w' r s zz k x y n t y c d)
set_option maxRecDepth 100000 in
set_option maxHeartbeats 8000000 in
theorem rdNext_any (s : ByteArray) (r z : Nat) (w B : World) (hs : s.size ≤ 65536) (hz : z ≤ s.size) (hE : NumEnv B) (hBw : Below B.heap.size B w) (hr : B.heap.size ≤ r) (pl k0 x0 z0 n0 : Int) (t0 : ByteArray) (c d : Int) (hR : RdAt w r s pl k0 x0 z0 n0 t0 z c d)
    (k x y n : Int) (t : ByteArray) (er : Int) (hR2 : Hid (resV (nextM s.data.toList z) = (k, x, y, n, t, er))) (zz : Nat) (hzz : Hid (z + blanks (s.data.toList.drop z) = zz)) :
    Calls Tryz.prog 12 #[.pointer (some ⟨r, 0, none⟩)] w (NextPost s r z zz k0 x0 z0 n0 t0 c d k x y n t er w) := by
  have hrw := hR.lt
  have HR := Lib.hid hR
  obtain ⟨c0, c1, c2, c3, c4, c5, c6, c7, -, -⟩ := hR.cells
  have hf := hR.frees 1
  have HNB := Lib.hid hE
  clear hR
  go_enter Tryz.func12, Tryz.ntmps12
  go_wp2_with fail
  have HR1 : Hid (RdAt (w.setCell ⟨r, 1, none⟩ (.int .i64 z)) r s z k0 x0 z0 n0 t0 z c d) := BlkAt.set HR.out 1 _
  have hg1 : w.grownBy (w.setCell ⟨r, 1, none⟩ (.int .i64 z)) (some r) := grown_set (World.grownBy.refl _ _) _ _
  generalize w.setCell ⟨r, 1, none⟩ (.int .i64 z) = w1 at HR1 hg1 ⊢
  clear c0 c1 c2 c3 c4 c5 c6 c7 hf HR
  go_loopg [33] (s.size - z) (fun gk u wr => ∃ q : Nat, gk = s.size - q ∧ q ≤ s.size ∧ Hid (q + blanks (s.data.toList.drop q) = zz) ∧ Hid (RdAt wr r s q k0 x0 z0 n0 t0 z c d) ∧ w.grownBy wr (some r))
  case atStart => exact ⟨z, rfl, hz, hzz, HR1, hg1⟩
  case round =>
    obtain ⟨q, rfl, hq, HQ, HRr, hgr⟩ := hrel
    obtain ⟨c0, c1, -, -, -, -, -, -, -, -⟩ := HRr.out.cells
    have hf := HRr.out.frees 1
    clear HR1 hg1
    by_cases hlt : q < s.size
    · have i0 : (0 : Int) ≤ (q : Int) := by omega
      have i1 : (q : Int) < (s.size : Int) := by omega
      by_cases hb : isBlank s[q] = true
      · have hst := HQ.out
        rw [drop_at hlt, blanks_yes _ hb] at hst
        have HST : Hid (q + 1 + blanks (s.data.toList.drop (q + 1)) = zz) := by show _ = _; omega
        have HC := Lib.hid (fun W => space_yes s[q] W hb)
        clear hst hb HQ
        go_wp2_with fail
        go_quiet ((go_at_call 24; exact Calls.quiet_of_same (HC.out _)))
        go_wp2_with fail
        go_roundg (s.size - (q + 1))
        case rel => exact ⟨q + 1, rfl, by omega, HST, BlkAt.set (w := wr.drewN nq) HRr.out 1 _, grown_set (grown_drewN hgr _) _ _⟩
        case measure => omega
      · have hb' : isBlank s[q] = false := by simpa using hb
        have hst := HQ.out
        rw [drop_at hlt, blanks_zero _ hb', Nat.add_zero] at hst
        subst hst
        have HC := Lib.hid (fun W => space_no s[q] W hb')
        have HN := Lib.hid (fun W hEW => lexNext_in s q W (by omega) hq hEW k x y n t er (show resV (nextM s.data.toList q) = _ by rw [← hzz.out, nextM_skip]; exact hR2.out))
        clear hb hb' HQ
        go_wp2_with fail
        go_quiet ((go_at_call 24; exact Calls.quiet_of_same (HC.out _)))
        go_wp2_with fail
        have hgd := grown_drewN hgr nq
        have HRd : Hid (RdAt (wr.drewN nq) r s q k0 x0 z0 n0 t0 z c d) := HRr
        generalize wr.drewN nq = w3 at hgd HRd ⊢
        obtain ⟨d0, d1, d2, d3, d4, d5, d6, d7, -, -⟩ := HRd.out.cells
        clear c0 c1 hf HRr hgr
        have hrw3 := HRd.out.lt
        have hE3 := hE.below (grown_Below hBw hr hgd)
        by_cases he : er = 0
        · subst he
          go_region_held3 (fun w' => Below w3.heap.size w3 w' ∧ w'.cell? ⟨r, 0, none⟩ = some (.string s) ∧ w'.cell? ⟨r, 1, none⟩ = some (.int .i64 q))
            ((refine (fun h => ⟨h, cell_keep h d0, cell_keep h d1⟩ : Below w3.heap.size w3 _ → _) ?_; go_split_ands; (repeat (first | exact Below.refl _ _ | assumption | refine bel_drew ?_ | refine bel_alloc ?_ _ | refine bel_set ?_ (Nat.le_refl _) _ | refine below_more ?_ (by assumption)))))
            ((go_at_call 25; refine (HN.out _ (hE3.below (by (repeat (first | exact Below.refl _ _ | refine bel_drew ?_ | refine bel_alloc ?_ _))))).mono ?_; rintro e w4 ⟨rfl, hb3⟩; obtain ⟨hc3, hf3⟩ := bcell hb3; have hsz3 := hb3.size))
          all_goals go_wp2_with fail
          all_goals have hbW : r < w4.heap.size := Nat.lt_of_lt_of_le hrw3 (by simp at hsz3; omega)
          rotate_left
          · have hM5 : Hid (BlkAt (((((w4.setCell ⟨w3.heap.size, 0, none⟩ (.int .u8 k)).setCell ⟨w3.heap.size, 1, none⟩ (.int .i64 x)).setCell ⟨w3.heap.size, 2, none⟩ (.int .i64 y)).setCell ⟨w3.heap.size, 3, none⟩ (.int .i64 n)).setCell ⟨w3.heap.size, 4, none⟩ (.string t)) w3.heap.size 41 #[.int .u8 k, .int .i64 x, .int .i64 y, .int .i64 n, .string t]) :=
              ((((BlkAt.set (BlkAt.keep (show BlkAt (w3.drew.alloc (.cells #[.int .u8 0, .int .i64 0, .int .i64 0, .int .i64 0, .string ⟨#[]⟩] 41)) w3.heap.size 41 #[.int .u8 0, .int .i64 0, .int .i64 0, .int .i64 0, .string ⟨#[]⟩] from heap_alloc_last w3.drew _) hb3) 0 _).set 1 _).set 2 _).set 3 _).set 4 _
            have hb5 : Below w3.heap.size w3 (((((w4.setCell ⟨w3.heap.size, 0, none⟩ (.int .u8 k)).setCell ⟨w3.heap.size, 1, none⟩ (.int .i64 x)).setCell ⟨w3.heap.size, 2, none⟩ (.int .i64 y)).setCell ⟨w3.heap.size, 3, none⟩ (.int .i64 n)).setCell ⟨w3.heap.size, 4, none⟩ (.string t)) := by go_split_ands; assumption
            have hne : w3.heap.size ≠ r := by omega
            generalize (((((w4.setCell ⟨w3.heap.size, 0, none⟩ (.int .u8 k)).setCell ⟨w3.heap.size, 1, none⟩ (.int .i64 x)).setCell ⟨w3.heap.size, 2, none⟩ (.int .i64 y)).setCell ⟨w3.heap.size, 3, none⟩ (.int .i64 n)).setCell ⟨w3.heap.size, 4, none⟩ (.string t)) = W5 at hM5 hb5 ⊢
            have HR5 : Hid (RdAt W5 r s q k0 x0 z0 n0 t0 z c d) := HRd.out.keep hb5
            obtain ⟨-, -, e2, e3, e4, e5, e6, e7, -, -⟩ := HR5.out.cells
            have ef := HR5.out.frees
            have m0 := hM5.out.cell 0
            have m1 := hM5.out.cell 1
            have m2 := hM5.out.cell 2
            have m3 := hM5.out.cell 3
            have m4 := hM5.out.cell 4
            clear d0 d1 d2 d3 d4 d5 d6 d7
            go_region
            all_goals
              go_wp2_with fail
              go_ret
              exact ⟨rfl, grown_drew (grown_stored (grown_below hgd hb5) k x y n t), fun h => absurd rfl h, fun _ => RdAt.drew (rd_stored HR5.out k x y n t)⟩
          · have hM5 : Hid (BlkAt (w4.alloc (.cells #[.int .u8 k, .int .i64 x, .int .i64 y, .int .i64 n, .string t] 41)) w4.heap.size 41 #[.int .u8 k, .int .i64 x, .int .i64 y, .int .i64 n, .string t]) := heap_alloc_last w4 _
            have hb5 : Below w3.heap.size w3 (w4.alloc (.cells #[.int .u8 k, .int .i64 x, .int .i64 y, .int .i64 n, .string t] 41)) := by go_split_ands; assumption
            have hne : w4.heap.size ≠ r := by omega
            generalize w4.alloc (.cells #[.int .u8 k, .int .i64 x, .int .i64 y, .int .i64 n, .string t] 41) = W5 at hM5 hb5 ⊢
            have HR5 : Hid (RdAt W5 r s q k0 x0 z0 n0 t0 z c d) := HRd.out.keep hb5
            obtain ⟨-, -, e2, e3, e4, e5, e6, e7, -, -⟩ := HR5.out.cells
            have ef := HR5.out.frees
            have m0 := hM5.out.cell 0
            have m1 := hM5.out.cell 1
            have m2 := hM5.out.cell 2
            have m3 := hM5.out.cell 3
            have m4 := hM5.out.cell 4
            clear d0 d1 d2 d3 d4 d5 d6 d7
            go_region
            all_goals
              go_wp2_with fail
              go_ret
              exact ⟨rfl, grown_drew (grown_stored (grown_below hgd hb5) k x y n t), fun h => absurd rfl h, fun _ => RdAt.drew (rd_stored HR5.out k x y n t)⟩
        · have heb : (er != 0) = true := by rw [bne_iff_ne]; exact he
          go_region_held3 (fun w' => Below w3.heap.size w3 w' ∧ w'.cell? ⟨r, 0, none⟩ = some (.string s) ∧ w'.cell? ⟨r, 1, none⟩ = some (.int .i64 q))
            ((refine (fun h => ⟨h, cell_keep h d0, cell_keep h d1⟩ : Below w3.heap.size w3 _ → _) ?_; go_split_ands; (repeat (first | exact Below.refl _ _ | assumption | refine bel_drew ?_ | refine bel_alloc ?_ _ | refine bel_set ?_ (Nat.le_refl _) _ | refine below_more ?_ (by assumption)))))
            ((go_at_call 25; refine (HN.out _ (hE3.below (by (repeat (first | exact Below.refl _ _ | refine bel_drew ?_ | refine bel_alloc ?_ _))))).mono ?_; rintro e w4 ⟨rfl, hb3⟩; obtain ⟨hc3, hf3⟩ := bcell hb3; have hsz3 := hb3.size))
          all_goals
            go_wp2_with fail
            go_ret
            exact ⟨rfl, grown_below hgd (by go_split_ands; assumption), fun _ => HRd.out.keep (by go_split_ands; assumption), fun h => absurd h he⟩
    · have hst := HQ.out
      have hqe : s.data.toList.drop q = [] := List.drop_of_length_le (by rw [size_len]; omega)
      rw [hqe, show blanks [] = 0 from rfl, Nat.add_zero] at hst
      subst hst
      have i2 : ¬ (q : Int) < (s.size : Int) := by omega
      clear hqe
      have HN := Lib.hid (fun W hEW => lexNext_in s q W (by omega) hq hEW k x y n t er (show resV (nextM s.data.toList q) = _ by rw [← hzz.out, nextM_skip]; exact hR2.out))
      clear HQ
      go_wp2_with fail
      go_quiet (fail)
      go_wp2_with fail
      have hgd := grown_drewN hgr nq
      have HRd : Hid (RdAt (wr.drewN nq) r s q k0 x0 z0 n0 t0 z c d) := HRr
      generalize wr.drewN nq = w3 at hgd HRd ⊢
      obtain ⟨d0, d1, d2, d3, d4, d5, d6, d7, -, -⟩ := HRd.out.cells
      clear c0 c1 hf HRr hgr
      have hrw3 := HRd.out.lt
      have hE3 := hE.below (grown_Below hBw hr hgd)
      by_cases he : er = 0
      · subst he
        go_region_held3 (fun w' => Below w3.heap.size w3 w' ∧ w'.cell? ⟨r, 0, none⟩ = some (.string s) ∧ w'.cell? ⟨r, 1, none⟩ = some (.int .i64 q))
          ((refine (fun h => ⟨h, cell_keep h d0, cell_keep h d1⟩ : Below w3.heap.size w3 _ → _) ?_; go_split_ands; (repeat (first | exact Below.refl _ _ | assumption | refine bel_drew ?_ | refine bel_alloc ?_ _ | refine bel_set ?_ (Nat.le_refl _) _ | refine below_more ?_ (by assumption)))))
          ((go_at_call 25; refine (HN.out _ (hE3.below (by (repeat (first | exact Below.refl _ _ | refine bel_drew ?_ | refine bel_alloc ?_ _))))).mono ?_; rintro e w4 ⟨rfl, hb3⟩; obtain ⟨hc3, hf3⟩ := bcell hb3; have hsz3 := hb3.size))
        all_goals go_wp2_with fail
        all_goals have hbW : r < w4.heap.size := Nat.lt_of_lt_of_le hrw3 (by simp at hsz3; omega)
        rotate_left
        · have hM5 : Hid (BlkAt (((((w4.setCell ⟨w3.heap.size, 0, none⟩ (.int .u8 k)).setCell ⟨w3.heap.size, 1, none⟩ (.int .i64 x)).setCell ⟨w3.heap.size, 2, none⟩ (.int .i64 y)).setCell ⟨w3.heap.size, 3, none⟩ (.int .i64 n)).setCell ⟨w3.heap.size, 4, none⟩ (.string t)) w3.heap.size 41 #[.int .u8 k, .int .i64 x, .int .i64 y, .int .i64 n, .string t]) :=
            ((((BlkAt.set (BlkAt.keep (show BlkAt (w3.drew.alloc (.cells #[.int .u8 0, .int .i64 0, .int .i64 0, .int .i64 0, .string ⟨#[]⟩] 41)) w3.heap.size 41 #[.int .u8 0, .int .i64 0, .int .i64 0, .int .i64 0, .string ⟨#[]⟩] from heap_alloc_last w3.drew _) hb3) 0 _).set 1 _).set 2 _).set 3 _).set 4 _
          have hb5 : Below w3.heap.size w3 (((((w4.setCell ⟨w3.heap.size, 0, none⟩ (.int .u8 k)).setCell ⟨w3.heap.size, 1, none⟩ (.int .i64 x)).setCell ⟨w3.heap.size, 2, none⟩ (.int .i64 y)).setCell ⟨w3.heap.size, 3, none⟩ (.int .i64 n)).setCell ⟨w3.heap.size, 4, none⟩ (.string t)) := by go_split_ands; assumption
          have hne : w3.heap.size ≠ r := by omega
          generalize (((((w4.setCell ⟨w3.heap.size, 0, none⟩ (.int .u8 k)).setCell ⟨w3.heap.size, 1, none⟩ (.int .i64 x)).setCell ⟨w3.heap.size, 2, none⟩ (.int .i64 y)).setCell ⟨w3.heap.size, 3, none⟩ (.int .i64 n)).setCell ⟨w3.heap.size, 4, none⟩ (.string t)) = W5 at hM5 hb5 ⊢
          have HR5 : Hid (RdAt W5 r s q k0 x0 z0 n0 t0 z c d) := HRd.out.keep hb5
          obtain ⟨-, -, e2, e3, e4, e5, e6, e7, -, -⟩ := HR5.out.cells
          have ef := HR5.out.frees
          have m0 := hM5.out.cell 0
          have m1 := hM5.out.cell 1
          have m2 := hM5.out.cell 2
          have m3 := hM5.out.cell 3
          have m4 := hM5.out.cell 4
          clear d0 d1 d2 d3 d4 d5 d6 d7
          go_region
          all_goals
            go_wp2_with fail
            go_ret
            exact ⟨rfl, grown_drew (grown_stored (grown_below hgd hb5) k x y n t), fun h => absurd rfl h, fun _ => RdAt.drew (rd_stored HR5.out k x y n t)⟩
        · have hM5 : Hid (BlkAt (w4.alloc (.cells #[.int .u8 k, .int .i64 x, .int .i64 y, .int .i64 n, .string t] 41)) w4.heap.size 41 #[.int .u8 k, .int .i64 x, .int .i64 y, .int .i64 n, .string t]) := heap_alloc_last w4 _
          have hb5 : Below w3.heap.size w3 (w4.alloc (.cells #[.int .u8 k, .int .i64 x, .int .i64 y, .int .i64 n, .string t] 41)) := by go_split_ands; assumption
          have hne : w4.heap.size ≠ r := by omega
          generalize w4.alloc (.cells #[.int .u8 k, .int .i64 x, .int .i64 y, .int .i64 n, .string t] 41) = W5 at hM5 hb5 ⊢
          have HR5 : Hid (RdAt W5 r s q k0 x0 z0 n0 t0 z c d) := HRd.out.keep hb5
          obtain ⟨-, -, e2, e3, e4, e5, e6, e7, -, -⟩ := HR5.out.cells
          have ef := HR5.out.frees
          have m0 := hM5.out.cell 0
          have m1 := hM5.out.cell 1
          have m2 := hM5.out.cell 2
          have m3 := hM5.out.cell 3
          have m4 := hM5.out.cell 4
          clear d0 d1 d2 d3 d4 d5 d6 d7
          go_region
          all_goals
            go_wp2_with fail
            go_ret
            exact ⟨rfl, grown_drew (grown_stored (grown_below hgd hb5) k x y n t), fun h => absurd rfl h, fun _ => RdAt.drew (rd_stored HR5.out k x y n t)⟩
      · have heb : (er != 0) = true := by rw [bne_iff_ne]; exact he
        go_region_held3 (fun w' => Below w3.heap.size w3 w' ∧ w'.cell? ⟨r, 0, none⟩ = some (.string s) ∧ w'.cell? ⟨r, 1, none⟩ = some (.int .i64 q))
          ((refine (fun h => ⟨h, cell_keep h d0, cell_keep h d1⟩ : Below w3.heap.size w3 _ → _) ?_; go_split_ands; (repeat (first | exact Below.refl _ _ | assumption | refine bel_drew ?_ | refine bel_alloc ?_ _ | refine bel_set ?_ (Nat.le_refl _) _ | refine below_more ?_ (by assumption)))))
          ((go_at_call 25; refine (HN.out _ (hE3.below (by (repeat (first | exact Below.refl _ _ | refine bel_drew ?_ | refine bel_alloc ?_ _))))).mono ?_; rintro e w4 ⟨rfl, hb3⟩; obtain ⟨hc3, hf3⟩ := bcell hb3; have hsz3 := hb3.size))
        all_goals
          go_wp2_with fail
          go_ret
          exact ⟨rfl, grown_below hgd (by go_split_ands; assumption), fun _ => HRd.out.keep (by go_split_ands; assumption), fun h => absurd h he⟩
end Go.Proofs.YtfdecbfcddkoiaaGreatDoor
