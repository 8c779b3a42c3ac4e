/-
  read.tokens.next, walked.
  The state of the reading: where it stands; the next mark; the error of a mark; what is expected; a comma or the end.
  read.values.value: what is no list and no object; what may not be.
  read.values.list, over the contract of read.values.value.
  legateref11: the document's picker: Of, Take.
  legateref11: Text, List, Object, Fail, Done, Of.
  legateref11: Fail, Done, Of.
  legateref11.Of.
-/
import Derived.Test.YtmggmpigpiaagaaGreatDoorReadNext
import Derived.Deep.DrawnRows
import Derived.Test.YtmggmpigpiaagaaGreatDoorRefPick
import Derived.Test.YtmggmpigpiaagaaGreatDoorReadP
import Derived.Test.YtmggmpigpiaagaaGreatDoorStrsOwn
import Derived.Deep.RegionHeld3
import Derived.Test.YtmggmpigpiaagaaGreatDoorSignP
import Derived.IntWalk
import Derived.Deep.Light
namespace Go.Proofs.YtmggmpigpiaagaaGreatDoor
section
set_option maxRecDepth 100000
open Go.RowKit
attribute [local go_sem ↓] Go.wp_at_zero Go.wp_at_succ
theorem blanks_idem (l : List UInt8) : blanks (l.drop (blanks l)) = 0 := by
 match h : l.drop (blanks l) with
 | [] => rfl
 | c :: r => exact blanks_zero r (blanks_head l c r h)
theorem nextM_skip (s : List UInt8) (z : Nat) : nextM s (z + blanks (s.drop z)) = nextM s z := by
 unfold nextM tokB
 rw [← List.drop_drop, blanks_idem, List.drop_zero, Nat.add_zero]
theorem grown_Below {B w w' : World} {r : Nat} (hB : Below B.heap.size B w) (hr : B.heap.size ≤ r) (hg : w.grownBy w' (some r)) : Below B.heap.size B w' := by
 refine ⟨hg.os.trans hB.os, hg.tape.trans hB.tape, hg.output.trans hB.output, Nat.le_trans hB.size hg.size, fun k hk => ?_⟩
 rw [hg.block k (Nat.lt_of_lt_of_le hk hB.size) (fun e => ?_)]
 · exact hB.block k hk
 · have : k = r := by simpa using e
   omega
theorem rd_stored {W : World} {r : Nat} {s : ByteArray} {q k0 x0 z0 n0 : Int} {t0 : ByteArray} {z c d : Int} (h : RdAt W r s q k0 x0 z0 n0 t0 z c d) (k x y n : Int) (t : ByteArray) :
   RdAt ((((((W.setCell ⟨r, 2, none⟩ (.int .u8 k)).setCell ⟨r, 3, none⟩ (.int .i64 x)).setCell ⟨r, 4, none⟩ (.int .i64 y)).setCell ⟨r, 5, none⟩ (.int .i64 n)).setCell ⟨r, 6, none⟩ (.string t)).setCell ⟨r, 7, none⟩ (.int .i64 y)) r s q k x y n t y c d :=
 (((((BlkAt.set h 2 (.int .u8 k)).set 3 (.int .i64 x)).set 4 (.int .i64 y)).set 5 (.int .i64 n)).set 6 (.string t)).set 7 (.int .i64 y)
theorem RdAt.drew {W : World} {r : Nat} {s : ByteArray} {q k0 x0 z0 n0 : Int} {t0 : ByteArray} {z c d : Int} (h : RdAt W r s q k0 x0 z0 n0 t0 z c d) : RdAt W.drew r s q k0 x0 z0 n0 t0 z c d := h
theorem grown_stored {w W : World} {r : Nat} (h : w.grownBy W (some r)) (k x y n : Int) (t : ByteArray) :
   w.grownBy ((((((W.setCell ⟨r, 2, none⟩ (.int .u8 k)).setCell ⟨r, 3, none⟩ (.int .i64 x)).setCell ⟨r, 4, none⟩ (.int .i64 y)).setCell ⟨r, 5, none⟩ (.int .i64 n)).setCell ⟨r, 6, none⟩ (.string t)).setCell ⟨r, 7, none⟩ (.int .i64 y)) (some r) :=
 grown_set (grown_set (grown_set (grown_set (grown_set (grown_set h _ _) _ _) _ _) _ _) _ _) _ _
def NextPost (s : ByteArray) (r z zz : Nat) (k0 x0 z0 n0 : Int) (t0 : ByteArray) (c d k x y n : Int) (t : ByteArray) (er : Int) (w : World) (e : Ending) (w' : World) : Prop :=
 e = .returned (.int .i64 er) ∧ w.grownBy w' (some r) ∧ (er ≠ 0 → RdAt w' r s zz k0 x0 z0 n0 t0 z c d) ∧ (er = 0 → RdAt w' r s zz k x y n t y c d)
set_option maxHeartbeats 8000000 in
theorem rdNext_any (s : ByteArray) (r z : Nat) (w B : World) (hs : s.size ≤ 65536) (hz : z ≤ s.size) (hE : NumEnv B) (hBw : Below B.heap.size B w) (hr : B.heap.size ≤ r) (pl k0 x0 z0 n0 : Int) (t0 : ByteArray) (c d : Int) (hR : RdAt w r s pl k0 x0 z0 n0 t0 z c d)
   (k x y n : Int) (t : ByteArray) (er : Int) (hR2 : Hid (resV (nextM s.data.toList z) = (k, x, y, n, t, er))) (zz : Nat) (hzz : Hid (z + blanks (s.data.toList.drop z) = zz)) :
   Calls Tryz.prog 26 #[.pointer (some ⟨r, 0, none⟩)] w (NextPost s r z zz k0 x0 z0 n0 t0 c d k x y n t er w) := by
 have hrw := hR.lt
 have HR := Lib.hid hR
 obtain ⟨c0, c1, c2, c3, c4, c5, c6, c7, -, -⟩ := hR.cells
 have hf := hR.frees 1
 have HNB := Lib.hid hE
 clear hR
 go_enter Tryz.func26, Tryz.ntmps26
 go_wp2_with fail
 have HR1 : Hid (RdAt (w.setCell ⟨r, 1, none⟩ (.int .i64 z)) r s z k0 x0 z0 n0 t0 z c d) := BlkAt.set HR.out 1 _
 have hg1 : w.grownBy (w.setCell ⟨r, 1, none⟩ (.int .i64 z)) (some r) := grown_set (World.grownBy.refl _ _) _ _
 generalize w.setCell ⟨r, 1, none⟩ (.int .i64 z) = w1 at HR1 hg1 ⊢
 clear c0 c1 c2 c3 c4 c5 c6 c7 hf HR
 go_loopg [33] (s.size - z) (fun gk u wr => ∃ q : Nat, gk = s.size - q ∧ q ≤ s.size ∧ Hid (q + blanks (s.data.toList.drop q) = zz) ∧ Hid (RdAt wr r s q k0 x0 z0 n0 t0 z c d) ∧ w.grownBy wr (some r))
 case atStart => exact ⟨z, rfl, hz, hzz, HR1, hg1⟩
 case round =>
   obtain ⟨q, rfl, hq, HQ, HRr, hgr⟩ := hrel
   obtain ⟨c0, c1, -, -, -, -, -, -, -, -⟩ := HRr.out.cells
   have hf := HRr.out.frees 1
   clear HR1 hg1
   by_cases hlt : q < s.size
   · have i0 : (0 : Int) ≤ (q : Int) := by omega
     have i1 : (q : Int) < (s.size : Int) := by omega
     by_cases hb : isBlank s[q] = true
     · have hst := HQ.out
       rw [drop_at hlt, blanks_yes _ hb] at hst
       have HST : Hid (q + 1 + blanks (s.data.toList.drop (q + 1)) = zz) := by show _ = _; omega
       have HC := Lib.hid (fun W => space_yes s[q] W hb)
       clear hst hb HQ
       go_wp2_with fail
       go_quiet ((go_at_call 56; exact Calls.quiet_of_same (HC.out _)))
       go_wp2_with fail
       go_roundg (s.size - (q + 1))
       case rel => exact ⟨q + 1, rfl, by omega, HST, BlkAt.set (w := wr.drewN nq) HRr.out 1 _, grown_set (grown_drewN hgr _) _ _⟩
       case measure => omega
     · have hb' : isBlank s[q] = false := by simpa using hb
       have hst := HQ.out
       rw [drop_at hlt, blanks_zero _ hb', Nat.add_zero] at hst
       subst hst
       have HC := Lib.hid (fun W => space_no s[q] W hb')
       have HN := Lib.hid (fun W hEW => lexNext_in s q W (by omega) hq hEW k x y n t er (show resV (nextM s.data.toList q) = _ by rw [← hzz.out, nextM_skip]; exact hR2.out))
       clear hb hb' HQ
       go_wp2_with fail
       go_quiet ((go_at_call 56; exact Calls.quiet_of_same (HC.out _)))
       go_wp2_with fail
       have hgd := grown_drewN hgr nq
       have HRd : Hid (RdAt (wr.drewN nq) r s q k0 x0 z0 n0 t0 z c d) := HRr
       generalize wr.drewN nq = w3 at hgd HRd ⊢
       obtain ⟨d0, d1, d2, d3, d4, d5, d6, d7, -, -⟩ := HRd.out.cells
       clear c0 c1 hf HRr hgr
       have hrw3 := HRd.out.lt
       have hE3 := hE.below (grown_Below hBw hr hgd)
       by_cases he : er = 0
       · subst he
         go_region_held3 (fun w' => Below w3.heap.size w3 w' ∧ w'.cell? ⟨r, 0, none⟩ = some (.string s) ∧ w'.cell? ⟨r, 1, none⟩ = some (.int .i64 q))
           ((refine (fun h => ⟨h, cell_keep h d0, cell_keep h d1⟩ : Below w3.heap.size w3 _ → _) ?_; go_split_ands; (repeat (first | exact Below.refl _ _ | assumption | refine bel_drew ?_ | refine bel_alloc ?_ _ | refine bel_set ?_ (Nat.le_refl _) _ | refine below_more ?_ (by assumption)))))
           ((go_at_call 57; refine (HN.out _ (hE3.below (by (repeat (first | exact Below.refl _ _ | refine bel_drew ?_ | refine bel_alloc ?_ _))))).mono ?_; rintro e w4 ⟨rfl, hb3⟩; obtain ⟨hc3, hf3⟩ := bcell hb3; have hsz3 := hb3.size))
         all_goals go_wp2_with fail
         all_goals have hbW : r < w4.heap.size := Nat.lt_of_lt_of_le hrw3 (by simp at hsz3; omega)
         rotate_left
         · have hM5 : Hid (BlkAt (((((w4.setCell ⟨w3.heap.size, 0, none⟩ (.int .u8 k)).setCell ⟨w3.heap.size, 1, none⟩ (.int .i64 x)).setCell ⟨w3.heap.size, 2, none⟩ (.int .i64 y)).setCell ⟨w3.heap.size, 3, none⟩ (.int .i64 n)).setCell ⟨w3.heap.size, 4, none⟩ (.string t)) w3.heap.size 58 #[.int .u8 k, .int .i64 x, .int .i64 y, .int .i64 n, .string t]) :=
             ((((BlkAt.set (BlkAt.keep (show BlkAt (w3.drew.alloc (.cells #[.int .u8 0, .int .i64 0, .int .i64 0, .int .i64 0, .string ⟨#[]⟩] 58)) w3.heap.size 58 #[.int .u8 0, .int .i64 0, .int .i64 0, .int .i64 0, .string ⟨#[]⟩] from heap_alloc_last w3.drew _) hb3) 0 _).set 1 _).set 2 _).set 3 _).set 4 _
           have hb5 : Below w3.heap.size w3 (((((w4.setCell ⟨w3.heap.size, 0, none⟩ (.int .u8 k)).setCell ⟨w3.heap.size, 1, none⟩ (.int .i64 x)).setCell ⟨w3.heap.size, 2, none⟩ (.int .i64 y)).setCell ⟨w3.heap.size, 3, none⟩ (.int .i64 n)).setCell ⟨w3.heap.size, 4, none⟩ (.string t)) := by go_split_ands; assumption
           have hne : w3.heap.size ≠ r := by omega
           generalize (((((w4.setCell ⟨w3.heap.size, 0, none⟩ (.int .u8 k)).setCell ⟨w3.heap.size, 1, none⟩ (.int .i64 x)).setCell ⟨w3.heap.size, 2, none⟩ (.int .i64 y)).setCell ⟨w3.heap.size, 3, none⟩ (.int .i64 n)).setCell ⟨w3.heap.size, 4, none⟩ (.string t)) = W5 at hM5 hb5 ⊢
           have HR5 : Hid (RdAt W5 r s q k0 x0 z0 n0 t0 z c d) := HRd.out.keep hb5
           obtain ⟨-, -, e2, e3, e4, e5, e6, e7, -, -⟩ := HR5.out.cells
           have ef := HR5.out.frees
           have m0 := hM5.out.cell 0
           have m1 := hM5.out.cell 1
           have m2 := hM5.out.cell 2
           have m3 := hM5.out.cell 3
           have m4 := hM5.out.cell 4
           clear d0 d1 d2 d3 d4 d5 d6 d7
           go_region
           all_goals
             go_wp2_with fail
             go_ret
             exact ⟨rfl, grown_drew (grown_stored (grown_below hgd hb5) k x y n t), fun h => absurd rfl h, fun _ => RdAt.drew (rd_stored HR5.out k x y n t)⟩
         · have hM5 : Hid (BlkAt (w4.alloc (.cells #[.int .u8 k, .int .i64 x, .int .i64 y, .int .i64 n, .string t] 58)) w4.heap.size 58 #[.int .u8 k, .int .i64 x, .int .i64 y, .int .i64 n, .string t]) := heap_alloc_last w4 _
           have hb5 : Below w3.heap.size w3 (w4.alloc (.cells #[.int .u8 k, .int .i64 x, .int .i64 y, .int .i64 n, .string t] 58)) := by go_split_ands; assumption
           have hne : w4.heap.size ≠ r := by omega
           generalize w4.alloc (.cells #[.int .u8 k, .int .i64 x, .int .i64 y, .int .i64 n, .string t] 58) = W5 at hM5 hb5 ⊢
           have HR5 : Hid (RdAt W5 r s q k0 x0 z0 n0 t0 z c d) := HRd.out.keep hb5
           obtain ⟨-, -, e2, e3, e4, e5, e6, e7, -, -⟩ := HR5.out.cells
           have ef := HR5.out.frees
           have m0 := hM5.out.cell 0
           have m1 := hM5.out.cell 1
           have m2 := hM5.out.cell 2
           have m3 := hM5.out.cell 3
           have m4 := hM5.out.cell 4
           clear d0 d1 d2 d3 d4 d5 d6 d7
           go_region
           all_goals
             go_wp2_with fail
             go_ret
             exact ⟨rfl, grown_drew (grown_stored (grown_below hgd hb5) k x y n t), fun h => absurd rfl h, fun _ => RdAt.drew (rd_stored HR5.out k x y n t)⟩
       · have heb : (er != 0) = true := by rw [bne_iff_ne]; exact he
         go_region_held3 (fun w' => Below w3.heap.size w3 w' ∧ w'.cell? ⟨r, 0, none⟩ = some (.string s) ∧ w'.cell? ⟨r, 1, none⟩ = some (.int .i64 q))
           ((refine (fun h => ⟨h, cell_keep h d0, cell_keep h d1⟩ : Below w3.heap.size w3 _ → _) ?_; go_split_ands; (repeat (first | exact Below.refl _ _ | assumption | refine bel_drew ?_ | refine bel_alloc ?_ _ | refine bel_set ?_ (Nat.le_refl _) _ | refine below_more ?_ (by assumption)))))
           ((go_at_call 57; refine (HN.out _ (hE3.below (by (repeat (first | exact Below.refl _ _ | refine bel_drew ?_ | refine bel_alloc ?_ _))))).mono ?_; rintro e w4 ⟨rfl, hb3⟩; obtain ⟨hc3, hf3⟩ := bcell hb3; have hsz3 := hb3.size))
         all_goals
           go_wp2_with fail
           go_ret
           exact ⟨rfl, grown_below hgd (by go_split_ands; assumption), fun _ => HRd.out.keep (by go_split_ands; assumption), fun h => absurd h he⟩
   · have hst := HQ.out
     have hqe : s.data.toList.drop q = [] := List.drop_of_length_le (by rw [size_len]; omega)
     rw [hqe, show blanks [] = 0 from rfl, Nat.add_zero] at hst
     subst hst
     have i2 : ¬ (q : Int) < (s.size : Int) := by omega
     clear hqe
     have HN := Lib.hid (fun W hEW => lexNext_in s q W (by omega) hq hEW k x y n t er (show resV (nextM s.data.toList q) = _ by rw [← hzz.out, nextM_skip]; exact hR2.out))
     clear HQ
     go_wp2_with fail
     go_quiet (fail)
     go_wp2_with fail
     have hgd := grown_drewN hgr nq
     have HRd : Hid (RdAt (wr.drewN nq) r s q k0 x0 z0 n0 t0 z c d) := HRr
     generalize wr.drewN nq = w3 at hgd HRd ⊢
     obtain ⟨d0, d1, d2, d3, d4, d5, d6, d7, -, -⟩ := HRd.out.cells
     clear c0 c1 hf HRr hgr
     have hrw3 := HRd.out.lt
     have hE3 := hE.below (grown_Below hBw hr hgd)
     by_cases he : er = 0
     · subst he
       go_region_held3 (fun w' => Below w3.heap.size w3 w' ∧ w'.cell? ⟨r, 0, none⟩ = some (.string s) ∧ w'.cell? ⟨r, 1, none⟩ = some (.int .i64 q))
         ((refine (fun h => ⟨h, cell_keep h d0, cell_keep h d1⟩ : Below w3.heap.size w3 _ → _) ?_; go_split_ands; (repeat (first | exact Below.refl _ _ | assumption | refine bel_drew ?_ | refine bel_alloc ?_ _ | refine bel_set ?_ (Nat.le_refl _) _ | refine below_more ?_ (by assumption)))))
         ((go_at_call 57; refine (HN.out _ (hE3.below (by (repeat (first | exact Below.refl _ _ | refine bel_drew ?_ | refine bel_alloc ?_ _))))).mono ?_; rintro e w4 ⟨rfl, hb3⟩; obtain ⟨hc3, hf3⟩ := bcell hb3; have hsz3 := hb3.size))
       all_goals go_wp2_with fail
       all_goals have hbW : r < w4.heap.size := Nat.lt_of_lt_of_le hrw3 (by simp at hsz3; omega)
       rotate_left
       · have hM5 : Hid (BlkAt (((((w4.setCell ⟨w3.heap.size, 0, none⟩ (.int .u8 k)).setCell ⟨w3.heap.size, 1, none⟩ (.int .i64 x)).setCell ⟨w3.heap.size, 2, none⟩ (.int .i64 y)).setCell ⟨w3.heap.size, 3, none⟩ (.int .i64 n)).setCell ⟨w3.heap.size, 4, none⟩ (.string t)) w3.heap.size 58 #[.int .u8 k, .int .i64 x, .int .i64 y, .int .i64 n, .string t]) :=
           ((((BlkAt.set (BlkAt.keep (show BlkAt (w3.drew.alloc (.cells #[.int .u8 0, .int .i64 0, .int .i64 0, .int .i64 0, .string ⟨#[]⟩] 58)) w3.heap.size 58 #[.int .u8 0, .int .i64 0, .int .i64 0, .int .i64 0, .string ⟨#[]⟩] from heap_alloc_last w3.drew _) hb3) 0 _).set 1 _).set 2 _).set 3 _).set 4 _
         have hb5 : Below w3.heap.size w3 (((((w4.setCell ⟨w3.heap.size, 0, none⟩ (.int .u8 k)).setCell ⟨w3.heap.size, 1, none⟩ (.int .i64 x)).setCell ⟨w3.heap.size, 2, none⟩ (.int .i64 y)).setCell ⟨w3.heap.size, 3, none⟩ (.int .i64 n)).setCell ⟨w3.heap.size, 4, none⟩ (.string t)) := by go_split_ands; assumption
         have hne : w3.heap.size ≠ r := by omega
         generalize (((((w4.setCell ⟨w3.heap.size, 0, none⟩ (.int .u8 k)).setCell ⟨w3.heap.size, 1, none⟩ (.int .i64 x)).setCell ⟨w3.heap.size, 2, none⟩ (.int .i64 y)).setCell ⟨w3.heap.size, 3, none⟩ (.int .i64 n)).setCell ⟨w3.heap.size, 4, none⟩ (.string t)) = W5 at hM5 hb5 ⊢
         have HR5 : Hid (RdAt W5 r s q k0 x0 z0 n0 t0 z c d) := HRd.out.keep hb5
         obtain ⟨-, -, e2, e3, e4, e5, e6, e7, -, -⟩ := HR5.out.cells
         have ef := HR5.out.frees
         have m0 := hM5.out.cell 0
         have m1 := hM5.out.cell 1
         have m2 := hM5.out.cell 2
         have m3 := hM5.out.cell 3
         have m4 := hM5.out.cell 4
         clear d0 d1 d2 d3 d4 d5 d6 d7
         go_region
         all_goals
           go_wp2_with fail
           go_ret
           exact ⟨rfl, grown_drew (grown_stored (grown_below hgd hb5) k x y n t), fun h => absurd rfl h, fun _ => RdAt.drew (rd_stored HR5.out k x y n t)⟩
       · have hM5 : Hid (BlkAt (w4.alloc (.cells #[.int .u8 k, .int .i64 x, .int .i64 y, .int .i64 n, .string t] 58)) w4.heap.size 58 #[.int .u8 k, .int .i64 x, .int .i64 y, .int .i64 n, .string t]) := heap_alloc_last w4 _
         have hb5 : Below w3.heap.size w3 (w4.alloc (.cells #[.int .u8 k, .int .i64 x, .int .i64 y, .int .i64 n, .string t] 58)) := by go_split_ands; assumption
         have hne : w4.heap.size ≠ r := by omega
         generalize w4.alloc (.cells #[.int .u8 k, .int .i64 x, .int .i64 y, .int .i64 n, .string t] 58) = W5 at hM5 hb5 ⊢
         have HR5 : Hid (RdAt W5 r s q k0 x0 z0 n0 t0 z c d) := HRd.out.keep hb5
         obtain ⟨-, -, e2, e3, e4, e5, e6, e7, -, -⟩ := HR5.out.cells
         have ef := HR5.out.frees
         have m0 := hM5.out.cell 0
         have m1 := hM5.out.cell 1
         have m2 := hM5.out.cell 2
         have m3 := hM5.out.cell 3
         have m4 := hM5.out.cell 4
         clear d0 d1 d2 d3 d4 d5 d6 d7
         go_region
         all_goals
           go_wp2_with fail
           go_ret
           exact ⟨rfl, grown_drew (grown_stored (grown_below hgd hb5) k x y n t), fun h => absurd rfl h, fun _ => RdAt.drew (rd_stored HR5.out k x y n t)⟩
     · have heb : (er != 0) = true := by rw [bne_iff_ne]; exact he
       go_region_held3 (fun w' => Below w3.heap.size w3 w' ∧ w'.cell? ⟨r, 0, none⟩ = some (.string s) ∧ w'.cell? ⟨r, 1, none⟩ = some (.int .i64 q))
         ((refine (fun h => ⟨h, cell_keep h d0, cell_keep h d1⟩ : Below w3.heap.size w3 _ → _) ?_; go_split_ands; (repeat (first | exact Below.refl _ _ | assumption | refine bel_drew ?_ | refine bel_alloc ?_ _ | refine bel_set ?_ (Nat.le_refl _) _ | refine below_more ?_ (by assumption)))))
         ((go_at_call 57; refine (HN.out _ (hE3.below (by (repeat (first | exact Below.refl _ _ | refine bel_drew ?_ | refine bel_alloc ?_ _))))).mono ?_; rintro e w4 ⟨rfl, hb3⟩; obtain ⟨hc3, hf3⟩ := bcell hb3; have hsz3 := hb3.size))
       all_goals
         go_wp2_with fail
         go_ret
         exact ⟨rfl, grown_below hgd (by go_split_ands; assumption), fun _ => HRd.out.keep (by go_split_ands; assumption), fun h => absurd h he⟩
end

section
set_option maxRecDepth 100000
open Go.RowKit
def MkB (m : Mk) : Prop := -9223372036854775808 ≤ m.n ∧ m.n ≤ 9223372036854775807 ∧ m.t.length ≤ 4096
theorem strGo_len : ∀ (f : Nat) (l out : List UInt8), out.length ≤ 4096 → (strGo f l out).1.length ≤ 4096
 | 0, _, _, _ => by simp [strGo]
 | _ + 1, [], _, _ => by simp [strGo]
 | f + 1, c :: r, out, h => by
   rw [strGo]
   by_cases h1 : c.toNat = 34
   · rw [if_pos h1]; exact h
   rw [if_neg h1]
   by_cases h2 : (itemP (c :: r)).2.2 ≠ 0
   · rw [if_pos h2]; simp
   rw [if_neg h2]
   by_cases h3 : 4096 < out.length + (encP (itemP (c :: r)).1).length
   · rw [if_pos h3]; simp
   rw [if_neg h3]
   by_cases h4 : (strGo f ((c :: r).drop (itemP (c :: r)).2.1) (out ++ encP (itemP (c :: r)).1)).2.2 ≠ 0
   · rw [if_pos h4]; simp
   rw [if_neg h4]
   exact strGo_len f _ _ (by rw [List.length_append]; omega)
theorem tokP_b (l : List UInt8) : -9223372036854775808 ≤ (tokP l).n ∧ (tokP l).n ≤ 9223372036854775807 ∧ (tokP l).t.length ≤ 4096 := by
 match l with
 | [] => simp [tokP]
 | c :: r =>
   rw [tokP]
   by_cases h1 : signOf c ≠ 0
   · rw [if_pos h1]; simp
   rw [if_neg h1]
   by_cases h2 : c.toNat = 34
   · rw [if_pos h2]
     unfold textP
     by_cases h3 : (strP r).2.2 ≠ 0
     · rw [if_pos h3]; simp [Tok.bad]
     · rw [if_neg h3]
       exact ⟨by simp, by simp, strGo_len _ _ _ (by simp)⟩
   rw [if_neg h2]
   by_cases h3 : numFirst c = true
   · rw [if_pos h3]
     unfold numP
     by_cases h4 : Nm.form ((c :: r).takeWhile Nm.isN) = false
     · rw [if_pos h4]; simp [Tok.bad]
     rw [if_neg h4]
     by_cases h5 : -9223372036854775808 ≤ Nm.val ((c :: r).takeWhile Nm.isN) ∧ Nm.val ((c :: r).takeWhile Nm.isN) ≤ 9223372036854775807
     · rw [if_pos h5]; exact ⟨h5.1, h5.2, by simp⟩
     · rw [if_neg h5]; simp [Tok.bad]
   · rw [if_neg h3]
     unfold wordP
     split
     · simp
     · split <;> simp [Tok.bad]
theorem nextM_b {s : List UInt8} {z : Nat} {m : Mk} {e : Int} (h : nextM s z = (m, e)) : MkB m := by
 unfold nextM at h
 by_cases h1 : (tokB (s.drop z)).e ≠ 0
 · rw [if_pos h1] at h
   simp only [Prod.mk.injEq] at h
   obtain ⟨rfl, -⟩ := h
   exact ⟨by decide, by decide, by decide⟩
 · rw [if_neg h1] at h
   simp only [Prod.mk.injEq] at h
   obtain ⟨rfl, -⟩ := h
   exact tokP_b _
def StAt (w : World) (r : Nat) (s : ByteArray) (m : Mk) (ms : List Lx) (c d : Int) : Prop :=
 RdAt w r s m.a m.k m.a m.z m.n ⟨m.t.toArray⟩ m.z c d ∧ m.z ≤ s.size ∧ (ms = if m.k = 11 then [] else lexes (s.data.toList.drop m.z) m.z) ∧ MkB m
def StBad (w : World) (r : Nat) (s : ByteArray) (p : Nat) : Prop := ∃ (k x z n : Int) (t : ByteArray) (af c d : Int), RdAt w r s p k x z n t af c d
structure Bas (B w : World) (r : Nat) : Prop where
 env : NumEnv B
 below : Below B.heap.size B w
 ge : B.heap.size ≤ r
theorem Bas.grown {B w w' : World} {r : Nat} (h : Bas B w r) (hg : w.grownBy w' (some r)) : Bas B w' r := ⟨h.env, grown_Below h.below h.ge hg, h.ge⟩
theorem StAt.bad {w : World} {r : Nat} {s : ByteArray} {m : Mk} {ms : List Lx} {c d : Int} (h : StAt w r s m ms c d) : StBad w r s m.a := ⟨_, _, _, _, _, _, _, _, h.1⟩
theorem StAt.lt {w : World} {r : Nat} {s : ByteArray} {m : Mk} {ms : List Lx} {c d : Int} (h : StAt w r s m ms c d) : r < w.heap.size := BlkAt.lt h.1
theorem StAt.keep {w w' : World} {r : Nat} {s : ByteArray} {m : Mk} {ms : List Lx} {c d : Int} (h : StAt w r s m ms c d) (hb : Below w.heap.size w w') : StAt w' r s m ms c d := ⟨BlkAt.keep h.1 hb, h.2⟩
theorem StAt.same {w w' : World} {r : Nat} {s : ByteArray} {m : Mk} {ms : List Lx} {c d : Int} (h : StAt w r s m ms c d) (hb : w'.heap[r]? = w.heap[r]?) : StAt w' r s m ms c d := ⟨by unfold RdAt BlkAt; rw [hb]; exact h.1, h.2⟩
theorem StBad.same {w w' : World} {r : Nat} {s : ByteArray} {p : Nat} (h : StBad w r s p) (hb : w'.heap[r]? = w.heap[r]?) : StBad w' r s p := by
 obtain ⟨k, x, z, n, t, af, c, d, h⟩ := h
 exact ⟨k, x, z, n, t, af, c, d, by unfold RdAt BlkAt; rw [hb]; exact h⟩
theorem lexes_ne (l : List UInt8) (p : Nat) : lexes l p ≠ [] := by
 rw [lexes_step]
 by_cases h1 : (tokB l).e ≠ 0
 · rw [if_pos h1]; simp
 · rw [if_neg h1]; simp
theorem lexes_err {l : List UInt8} {p q : Nat} {e : Int} {r : List Lx} (h : lexes l p = .err q e :: r) : e ≠ 0 := by
 rw [lexes_step] at h
 by_cases h1 : (tokB l).e ≠ 0
 · rw [if_pos h1] at h
   simp only [List.cons.injEq, Lx.err.injEq] at h
   rw [← h.1.2]; exact h1
 · rw [if_neg h1] at h; simp at h
theorem StAt.err {w : World} {r : Nat} {s : ByteArray} {m : Mk} {c d : Int} {q : Nat} {e : Int} {tl : List Lx} (h : StAt w r s m (.err q e :: tl) c d) : e ≠ 0 := by
 have h3 := h.2.2.1
 by_cases hk : m.k = 11
 · rw [if_pos hk] at h3; cases h3
 · rw [if_neg hk] at h3; exact lexes_err h3.symm
theorem StAt.nonil {w : World} {r : Nat} {s : ByteArray} {m : Mk} {c d : Int} (h : StAt w r s m [] c d) : m.k = 11 := by
 apply Classical.byContradiction
 intro hk
 have h3 := h.2.2.1
 rw [if_neg hk] at h3
 exact lexes_ne _ _ h3.symm
theorem nextM_zero {s : List UInt8} {z : Nat} {m : Mk} {e : Int} (h : nextM s z = (m, e)) (he : e ≠ 0) : m = ⟨0, 0, 0, 0, []⟩ := by
 unfold nextM at h
 by_cases h1 : (tokB (s.drop z)).e ≠ 0
 · rw [if_pos h1] at h
   simp only [Prod.mk.injEq] at h
   exact h.1.symm
 · rw [if_neg h1] at h
   simp only [Prod.mk.injEq] at h
   exact absurd h.2.symm he
theorem next_err {B w : World} {r : Nat} {s : ByteArray} {m : Mk} {ms : List Lx} {c d : Int} (hs : s.size ≤ 65536) (hB : Bas B w r) (h : StAt w r s m ms c d) (hk : m.k ≠ 11) {p : Nat} {e : Int} {tl : List Lx} (hms : Hid (ms = .err p e :: tl)) :
   Calls Tryz.prog 26 #[.pointer (some ⟨r, 0, none⟩)] w fun e' w' => e' = .returned (.int .i64 e) ∧ w.grownBy w' (some r) ∧ StBad w' r s p := by
 obtain ⟨hR, hz, h3, -⟩ := h
 rw [if_neg hk, hms.out] at h3
 obtain ⟨m', er, hn⟩ : ∃ m' er, nextM s.data.toList m.z = (m', er) := ⟨_, _, rfl⟩
 by_cases he : er = 0
 · subst he
   rw [lexes_tok _ _ _ hn] at h3
   simp at h3
 · rw [lexes_bad _ _ _ _ hn he] at h3
   simp only [List.cons.injEq, Lx.err.injEq] at h3
   obtain ⟨⟨rfl, rfl⟩, -⟩ := h3
   have hm' := nextM_zero hn he
   subst hm'
   refine (rdNext_any s r m.z w B hs hz hB.env hB.below hB.ge _ _ _ _ _ _ c d hR 0 0 0 0 ⟨#[]⟩ e (show resV _ = _ by rw [hn]; rfl) _ (Lib.hid rfl)).mono ?_
   rintro e' w' ⟨rfl, hg, hbad, -⟩
   exact ⟨rfl, hg, _, _, _, _, _, _, _, _, hbad he⟩
theorem next_tok {B w : World} {r : Nat} {s : ByteArray} {m : Mk} {ms : List Lx} {c d : Int} (hs : s.size ≤ 65536) (hB : Bas B w r) (h : StAt w r s m ms c d) (hk : m.k ≠ 11) {m' : Mk} {ms' : List Lx} (hms : Hid (ms = .tok m' :: ms')) :
   Calls Tryz.prog 26 #[.pointer (some ⟨r, 0, none⟩)] w fun e' w' => e' = .returned (.int .i64 0) ∧ w.grownBy w' (some r) ∧ StAt w' r s m' ms' c d := by
 obtain ⟨hR, hz, h3, -⟩ := h
 rw [if_neg hk, hms.out] at h3
 obtain ⟨m2, er, hn⟩ : ∃ m2 er, nextM s.data.toList m.z = (m2, er) := ⟨_, _, rfl⟩
 by_cases he : er = 0
 · subst he
   rw [lexes_tok _ _ _ hn] at h3
   simp only [List.cons.injEq, Lx.tok.injEq] at h3
   obtain ⟨rfl, rfl⟩ := h3
   obtain ⟨k1, k2, k3, k4, -⟩ := nextM_ok (by rw [size_len]; exact hz) hn
   rw [size_len] at k4
   refine (rdNext_any s r m.z w B hs hz hB.env hB.below hB.ge _ _ _ _ _ _ c d hR m'.k m'.a m'.z m'.n ⟨m'.t.toArray⟩ 0 (show resV _ = _ by rw [hn]; rfl) m'.a (Lib.hid k2.symm)).mono ?_
   rintro e' w' ⟨rfl, hg, -, hok⟩
   exact ⟨rfl, hg, hok rfl, k4, rfl, nextM_b hn⟩
 · rw [lexes_bad _ _ _ _ hn he] at h3
   simp at h3
theorem StAt.kcell {w : World} {r : Nat} {s : ByteArray} {m : Mk} {ms : List Lx} {c d : Int} (h : StAt w r s m ms c d) : w.cell? ⟨r, 2, none⟩ = some (.int .u8 m.k) := h.1.cells.2.2.1
/-! wrong -/
theorem wrong_any {w : World} {r : Nat} {k : Int} (hc : w.cell? ⟨r, 2, none⟩ = some (.int .u8 k)) (v : Int) (hv : Hid ((if k = 11 then (4 : Int) else 3) = v)) :
   Calls Tryz.prog 58 #[.pointer (some ⟨r, 0, none⟩)] w fun e w' => e = .returned (.int .i64 v) ∧ w = w' := by
 by_cases hk : k = 11
 · have h := hv.out
   rw [if_pos hk] at h
   subst h
   have hb : (k == 11) = true := by rw [hk]; rfl
   clear hv hk
   go_enter Tryz.func58, Tryz.ntmps58
   go_wp2_with fail
   go_ret
   exact ⟨rfl, rfl⟩
 · have h := hv.out
   rw [if_neg hk] at h
   subst h
   have hb : (k == 11) = false := beq_eq_false_iff_ne.2 hk
   clear hv hk
   go_enter Tryz.func58, Tryz.ntmps58
   go_wp2_with fail
   go_ret
   exact ⟨rfl, rfl⟩
/-! expect -/
inductive MQ where
 | bad (p : Nat) (e : Int)
 | fin (m : Mk) (r : List Lx)
 | go (m : Mk) (r : List Lx)
def expQ (k : Int) : List Lx → MQ
 | [] => .bad 0 0
 | .err p e :: _ => .bad p e
 | .tok m :: r => if m.k = k then .fin m r else .bad m.a (wrongE m 3)
def MPost (R : MQ) (s : ByteArray) (r : Nat) (c d : Int) (w : World) (e : Ending) (w' : World) : Prop :=
 w.grownBy w' (some r) ∧ match R with
   | .bad p er => e = .returned (.int .i64 er) ∧ StBad w' r s p ∧ er ≠ 0
   | .fin m ms => e = .returned (.int .i64 0) ∧ StAt w' r s m ms c d
   | .go _ _ => False
theorem wrongE_ne (m : Mk) : wrongE m 3 ≠ 0 := by unfold wrongE; split <;> decide
set_option maxHeartbeats 2000000 in
theorem expect_any {B w : World} {r : Nat} {s : ByteArray} {m : Mk} {ms : List Lx} {c d : Int} (hs : s.size ≤ 65536) (hB : Bas B w r) (h : StAt w r s m ms c d) (hk : m.k ≠ 11) (k : Int) (R : MQ) (hR : Hid (expQ k ms = R)) :
   Calls Tryz.prog 115 #[.pointer (some ⟨r, 0, none⟩), .int .u8 k] w (MPost R s r c d w) := by
 match ms with
 | [] => exact absurd h.nonil hk
 | .err p e :: tl =>
   have hne := h.err
   have heb : (e != 0) = true := by rw [bne_iff_ne]; exact hne
   have hr := hR.out
   subst hr
   have HN := Lib.hid (next_err hs hB h hk (Lib.hid rfl))
   clear hR hB h
   go_enter Tryz.func115, Tryz.ntmps115
   go_wp2_with fail
   refine HN.out.mono ?_
   rintro e' w' ⟨rfl, hg, hb⟩
   go_wp2_with fail
   go_ret
   exact ⟨hg, rfl, hb, hne⟩
 | .tok m2 :: r2 =>
   have HN := Lib.hid (next_tok hs hB h hk (Lib.hid rfl))
   have hr := hR.out
   rw [expQ] at hr
   by_cases hkk : m2.k = k
   · rw [if_pos hkk] at hr
     subst hr
     have hb : (m2.k != k) = false := by rw [hkk]; simp
     clear hR hB h
     try clear hv
     go_enter Tryz.func115, Tryz.ntmps115
     go_wp2_with fail
     refine HN.out.mono ?_
     rintro e' w' ⟨rfl, hg, hst⟩
     have hc := hst.kcell
     have HST := Lib.hid hst
     clear hst hkk
     go_wp2_with fail
     go_ret
     exact ⟨hg, rfl, HST.out⟩
   · rw [if_neg hkk] at hr
     have hne := wrongE_ne m2
     generalize hv : wrongE m2 3 = v at hr hne
     have HV := Lib.hid hv
     subst hr
     have hb : (m2.k != k) = true := by rw [bne_iff_ne]; exact hkk
     clear hR hB h
     try clear hv
     go_enter Tryz.func115, Tryz.ntmps115
     go_wp2_with fail
     refine HN.out.mono ?_
     rintro e' w' ⟨rfl, hg, hst⟩
     have hc := hst.kcell
     have HST := Lib.hid hst
     have HW := Lib.hid (wrong_any hc v HV)
     clear hst hkk
     go_wp2_with fail
     refine HW.out.mono ?_
     rintro e' w'' ⟨rfl, rfl⟩
     go_wp2_with fail
     go_ret
     exact ⟨hg, rfl, HST.out.bad, hne⟩
/-! more -/
def moreQ (last : Int) : List Lx → MQ
 | [] => .bad 0 0
 | .err p e :: _ => .bad p e
 | .tok m :: r => if m.k = last then .fin m r else if m.k = 5 then (match r with | [] => .bad 0 0 | .err p e :: _ => .bad p e | .tok m3 :: r3 => .go m3 r3) else .bad m.a (wrongE m 3)
theorem moreP_Q {α : Type} (last : Int) (fin : List Lx → PR α) (go : Mk → List Lx → PR α) (ms : List Lx) : moreP last fin go ms = match moreQ last ms with | .bad p e => .bad p e | .fin _ r => fin r | .go m r => go m r := by
 match ms with
 | [] => rfl
 | .err p e :: tl => rfl
 | .tok m :: r =>
   unfold moreP moreQ
   show (if m.k = last then _ else if m.k = 5 then _ else _) = _
   by_cases h1 : m.k = last
   · rw [if_pos h1]
     simp only [if_pos h1]
   · rw [if_neg h1]
     simp only [if_neg h1]
     by_cases h2 : m.k = 5
     · rw [if_pos h2]
       simp only [if_pos h2]
       match r with
       | [] => rfl
       | .err p e :: tl => rfl
       | .tok m3 :: r3 => rfl
     · rw [if_neg h2]
       simp only [if_neg h2]
def M2Post (R : MQ) (s : ByteArray) (r : Nat) (c d : Int) (w : World) (e : Ending) (w' : World) : Prop :=
 w.grownBy w' (some r) ∧ match R with
   | .bad p er => e = .returned (.tuple #[.bool false, .int .i64 er]) ∧ StBad w' r s p ∧ er ≠ 0
   | .fin m ms => e = .returned (.tuple #[.bool false, .int .i64 0]) ∧ StAt w' r s m ms c d
   | .go m ms => e = .returned (.tuple #[.bool true, .int .i64 0]) ∧ StAt w' r s m ms c d
set_option maxHeartbeats 2000000 in
theorem more_any {B w : World} {r : Nat} {s : ByteArray} {m : Mk} {ms : List Lx} {c d : Int} (hs : s.size ≤ 65536) (hB : Bas B w r) (h : StAt w r s m ms c d) (hk : m.k ≠ 11) (last : Int) (R : MQ) (hR : Hid (moreQ last ms = R)) :
   Calls Tryz.prog 87 #[.pointer (some ⟨r, 0, none⟩), .int .u8 last] w (M2Post R s r c d w) := by
 match ms with
 | [] => exact absurd h.nonil hk
 | .err p e :: tl =>
   have hne := h.err
   have heb : (e != 0) = true := by rw [bne_iff_ne]; exact hne
   have hr := hR.out
   subst hr
   have HN := Lib.hid (next_err hs hB h hk (Lib.hid rfl))
   clear hR hB h
   go_enter Tryz.func87, Tryz.ntmps87
   go_wp2_with fail
   refine HN.out.mono ?_
   rintro e' w' ⟨rfl, hg, hb⟩
   go_wp2_with fail
   go_ret2
   exact ⟨hg, rfl, hb, hne⟩
 | .tok m2 :: r2 =>
   have HN := Lib.hid (next_tok hs hB h hk (Lib.hid rfl))
   have HB := Lib.hid hB
   have hr := hR.out
   unfold moreQ at hr
   dsimp only at hr
   by_cases hkk : m2.k = last
   · rw [if_pos hkk] at hr
     subst hr
     have hb : (m2.k == last) = true := by rw [hkk]; simp
     clear hR hB h
     go_enter Tryz.func87, Tryz.ntmps87
     go_wp2_with fail
     refine HN.out.mono ?_
     rintro e' w' ⟨rfl, hg, hst⟩
     have hc := hst.kcell
     have HST := Lib.hid hst
     clear hst hkk
     go_wp2_with fail
     go_ret2
     exact ⟨hg, rfl, HST.out⟩
   · rw [if_neg hkk] at hr
     have hb : (m2.k == last) = false := beq_eq_false_iff_ne.2 hkk
     by_cases h5 : m2.k = 5
     · have hb5 : (m2.k == 5) = true := by rw [h5]; rfl
       have hk2 : m2.k ≠ 11 := by omega
       rw [if_pos h5] at hr
       match r2 with
       | [] =>
         exfalso
         have h3 := h.2.2.1
         rw [if_neg hk] at h3
         obtain ⟨m', er, hn⟩ : ∃ m' er, nextM s.data.toList m.z = (m', er) := ⟨_, _, rfl⟩
         by_cases he : er = 0
         · subst he
           rw [lexes_tok _ _ _ hn] at h3
           simp only [List.cons.injEq, Lx.tok.injEq] at h3
           obtain ⟨rfl, h3⟩ := h3
           rw [if_neg hk2] at h3
           exact lexes_ne _ _ h3.symm
         · rw [lexes_bad _ _ _ _ hn he] at h3
           simp at h3
       | .err p e :: tl =>
         subst hr
         clear hR hB h
         go_enter Tryz.func87, Tryz.ntmps87
         go_wp2_with fail
         refine HN.out.mono ?_
         rintro e' w' ⟨rfl, hg, hst⟩
         have hc := hst.kcell
         have hne := hst.err
         have heb : (e != 0) = true := by rw [bne_iff_ne]; exact hne
         have HN2 := Lib.hid (next_err hs (HB.out.grown hg) hst hk2 (Lib.hid rfl))
         clear hst hkk h5
         go_wp2_with fail
         refine HN2.out.mono ?_
         rintro e' w'' ⟨rfl, hg2, hb2⟩
         go_wp2_with fail
         go_ret2
         exact ⟨hg.trans hg2, rfl, hb2, hne⟩
       | .tok m3 :: r3 =>
         subst hr
         clear hR hB h
         go_enter Tryz.func87, Tryz.ntmps87
         go_wp2_with fail
         refine HN.out.mono ?_
         rintro e' w' ⟨rfl, hg, hst⟩
         have hc := hst.kcell
         have HN2 := Lib.hid (next_tok hs (HB.out.grown hg) hst hk2 (Lib.hid rfl))
         clear hst hkk h5
         go_wp2_with fail
         refine HN2.out.mono ?_
         rintro e' w'' ⟨rfl, hg2, hst2⟩
         have HST := Lib.hid hst2
         clear hst2
         go_wp2_with fail
         go_ret2
         exact ⟨hg.trans hg2, rfl, HST.out⟩
     · rw [if_neg h5] at hr
       have hne := wrongE_ne m2
       generalize hv : wrongE m2 3 = v at hr hne
       have HV := Lib.hid hv
       subst hr
       have hb5 : (m2.k == 5) = false := beq_eq_false_iff_ne.2 h5
       clear hR hB h
       try clear hv
       go_enter Tryz.func87, Tryz.ntmps87
       go_wp2_with fail
       refine HN.out.mono ?_
       rintro e' w' ⟨rfl, hg, hst⟩
       have hc := hst.kcell
       have HST := Lib.hid hst
       have HW := Lib.hid (wrong_any hc v HV)
       clear hst hkk h5
       go_wp2_with fail
       refine HW.out.mono ?_
       rintro e' w'' ⟨rfl, rfl⟩
       go_wp2_with fail
       go_ret2
       exact ⟨hg, rfl, HST.out.bad, hne⟩
end

section
set_option maxRecDepth 100000
open Go.RowKit
def zeroV : Value := .agg #[.int .u8 0, .int .i64 0, .string ⟨#[]⟩, .slice none 0 0, .slice none 0 0]
def VPost (R : PR JV) (s : ByteArray) (r : Nat) (d : Int) (w : World) (e : Ending) (w' : World) : Prop :=
 w.grownBy w' (some r) ∧ match R with
   | .bad p er => e = .returned (.tuple #[zeroV, .int .i64 er]) ∧ StBad w' r s p ∧ er ≠ 0
   | .ok V ms c => ∃ (x : VC) (m : Mk), e = .returned (.tuple #[x.val, .int .i64 0]) ∧ NewV w.heap.size w' V x.val ∧ StAt w' r s m ms c d ∧ m.k ≠ 11
theorem StAt.count {w : World} {r : Nat} {s : ByteArray} {m : Mk} {ms : List Lx} {c d : Int} (h : StAt w r s m ms c d) (c' : Int) : StAt (w.setCell ⟨r, 8, none⟩ (.int .i64 c')) r s m ms c' d := ⟨BlkAt.set h.1 8 _, h.2⟩
theorem StAt.depth {w : World} {r : Nat} {s : ByteArray} {m : Mk} {ms : List Lx} {c d : Int} (h : StAt w r s m ms c d) (d' : Int) : StAt (w.setCell ⟨r, 9, none⟩ (.int .i64 d')) r s m ms c d' := ⟨BlkAt.set h.1 9 _, h.2⟩
theorem StAt.ncell {w : World} {r : Nat} {s : ByteArray} {m : Mk} {ms : List Lx} {c d : Int} (h : StAt w r s m ms c d) : w.cell? ⟨r, 5, none⟩ = some (.int .i64 m.n) := h.1.cells.2.2.2.2.2.1
theorem StAt.tcell {w : World} {r : Nat} {s : ByteArray} {m : Mk} {ms : List Lx} {c d : Int} (h : StAt w r s m ms c d) : w.cell? ⟨r, 6, none⟩ = some (.string ⟨m.t.toArray⟩) := h.1.cells.2.2.2.2.2.2.1
theorem StAt.ccell {w : World} {r : Nat} {s : ByteArray} {m : Mk} {ms : List Lx} {c d : Int} (h : StAt w r s m ms c d) : w.cell? ⟨r, 8, none⟩ = some (.int .i64 c) := h.1.cells.2.2.2.2.2.2.2.2.1
theorem StAt.dcell {w : World} {r : Nat} {s : ByteArray} {m : Mk} {ms : List Lx} {c d : Int} (h : StAt w r s m ms c d) : w.cell? ⟨r, 9, none⟩ = some (.int .i64 d) := h.1.cells.2.2.2.2.2.2.2.2.2
theorem StAt.mkb {w : World} {r : Nat} {s : ByteArray} {m : Mk} {ms : List Lx} {c d : Int} (h : StAt w r s m ms c d) : MkB m := h.2.2.2
theorem StAt.free {w : World} {r : Nat} {s : ByteArray} {m : Mk} {ms : List Lx} {c d : Int} (h : StAt w r s m ms c d) : ∀ i, w.frozen? ⟨r, i, none⟩ = false := h.1.frees
theorem begV_no {m : Mk} (h : begV m = false) : (m.k == 1) = false ∧ (m.k == 3) = false ∧ (m.k == 7) = false ∧ (m.k == 8) = false ∧ (m.k == 9) = false ∧ (m.k == 10) = false := by
 simp only [begV, Bool.or_eq_false_iff] at h
 obtain ⟨⟨⟨⟨⟨a, b⟩, c⟩, d⟩, e⟩, f⟩ := h
 exact ⟨a, b, c, d, e, f⟩
set_option maxHeartbeats 2000000 in
theorem value_wrong {w : World} {r : Nat} {s : ByteArray} {m : Mk} {ms : List Lx} {c d : Int} (h : StAt w r s m ms c d) (hb : begV m = false) (v : Int) (hv : Hid (wrongE m 3 = v)) :
   Calls Tryz.prog 27 #[.pointer (some ⟨r, 0, none⟩)] w (VPost (.bad m.a v) s r d w) := by
 obtain ⟨e1, e2, e3, e4, e5, e6⟩ := begV_no hb
 have hk := h.kcell
 have hlt := h.lt
 have H := Lib.hid h
 have hne : v ≠ 0 := by rw [← hv.out]; exact wrongE_ne m
 have HW := Lib.hid (fun (W : World) (hc : W.cell? ⟨r, 2, none⟩ = some (.int .u8 m.k)) => wrong_any hc v hv)
 clear hb h
 go_enter Tryz.func27, Tryz.ntmps27
 go_wp2_with fail
 refine (HW.out _ (by rw [cell_al_lt _ _ _ _ hlt]; exact hk)).mono ?_
 rintro e w' ⟨rfl, rfl⟩
 go_wp2_with fail
 exact bodyPost_ret (v := .tuple #[zeroV, .int .i64 v]) (by simp [results, Tryz.results27, go_sem, zeroV]) rfl ⟨grown_alloc (World.grownBy.refl _ _) _, rfl, (H.out.keep (bel_alloc (Below.refl _ _) _)).bad, hne⟩
theorem beg_cases {m : Mk} (h : ¬ begV m = false) : m.k = 1 ∨ m.k = 3 ∨ m.k = 7 ∨ m.k = 8 ∨ m.k = 9 ∨ m.k = 10 := by
 simp only [begV, Bool.not_eq_false, Bool.or_eq_true, beq_iff_eq] at h
 omega
set_option maxHeartbeats 2000000 in
theorem value_much {w : World} {r : Nat} {s : ByteArray} {m : Mk} {ms : List Lx} {c : Nat} {d : Int} (h : StAt w r s m ms c d) (hb : ¬ begV m = false) (hc : 8192 ≤ c) :
   Calls Tryz.prog 27 #[.pointer (some ⟨r, 0, none⟩)] w (VPost (.bad m.a 5) s r d w) := by
 have hk := h.kcell
 have hcc := h.ccell
 have hlt := h.lt
 have H := Lib.hid h
 have hc' : (8192 : Int) ≤ (c : Int) := by omega
 have hcs := beg_cases hb
 clear hb h
 rcases hcs with e | e | e | e | e | e
 all_goals
   rw [e] at hk
   clear e
   go_enter Tryz.func27, Tryz.ntmps27
   go_wp2_with fail
   exact bodyPost_ret (v := .tuple #[zeroV, .int .i64 5]) (by simp [results, Tryz.results27, go_sem, zeroV]) rfl ⟨grown_alloc (World.grownBy.refl _ _) _, rfl, (H.out.keep (bel_alloc (Below.refl _ _) _)).bad, by decide⟩
set_option maxHeartbeats 2000000 in
theorem value_leaf {w : World} {r : Nat} {s : ByteArray} {m : Mk} {ms : List Lx} {c : Nat} {d : Int} (h : StAt w r s m ms c d) (hcs : m.k = 7 ∨ m.k = 8 ∨ m.k = 9 ∨ m.k = 10) (hc : c < 8192) :
   Calls Tryz.prog 27 #[.pointer (some ⟨r, 0, none⟩)] w (VPost (.ok (leafV m) ms (c + 1)) s r d w) := by
 have hk := h.kcell
 have hcc := h.ccell
 have hlt := h.lt
 have hn := h.ncell
 have ht := h.tcell
 have hf := h.free
 have H := Lib.hid h
 have hc' : ¬ (8192 : Int) ≤ (c : Int) := by omega
 clear h
 obtain ⟨n0, n1, n2⟩ := H.out.mkb
 have HL := Lib.hid (show ∀ k n t, leafV m = .mk k n t [] [] → 0 ≤ k → k ≤ 255 → -9223372036854775808 ≤ n → n ≤ 9223372036854775807 → t.size ≤ maxLen → NewV w.heap.size ((w.setCell ⟨r, 8, none⟩ (.int .i64 ((c : Int) + 1))).alloc (.cells #[.int .u8 k, .int .i64 n, .string t, .slice none 0 0, .slice none 0 0] 26)) (leafV m) (.agg #[.int .u8 k, .int .i64 n, .string t, .slice none 0 0, .slice none 0 0]) from
   fun k n t he k0 k1 n0 n1 ht => by rw [he]; exact valAt_leaf _ k n t k0 k1 n0 n1 ht)
 have HS : Hid (∀ v, StAt ((w.setCell ⟨r, 8, none⟩ (.int .i64 ((c : Int) + 1))).alloc (.cells v 26)) r s m ms ((c + 1 : Nat) : Int) d) := fun v => (H.out.count _).keep (bel_alloc (Below.refl _ _) _)
 have HG : Hid (∀ v, w.grownBy ((w.setCell ⟨r, 8, none⟩ (.int .i64 ((c : Int) + 1))).alloc (.cells v 26)) (some r)) := fun v => grown_alloc (grown_set (World.grownBy.refl _ _) _ _) _
 clear H
 rcases hcs with e | e | e | e
 · rw [e] at hk
   have HE : Hid (leafV m = .mk 1 1 ⟨#[]⟩ [] []) := by show _ = _; unfold leafV; rw [if_pos e]
   have h11 : m.k ≠ 11 := by omega
   clear e
   go_enter Tryz.func27, Tryz.ntmps27
   go_wp2_with fail
   exact bodyPost_ret (v := .tuple #[.agg #[.int .u8 1, .int .i64 1, .string ⟨#[]⟩, .slice none 0 0, .slice none 0 0], .int .i64 0]) (by simp [results, Tryz.results27, go_sem]) rfl ⟨HG.out _, ⟨1, 1, ⟨#[]⟩, none, 0, 0, none, 0, 0⟩, m, rfl, HL.out _ _ _ HE.out (by decide) (by decide) (by decide) (by decide) (by decide), HS.out _, h11⟩
 · rw [e] at hk
   have HE : Hid (leafV m = .mk 1 0 ⟨#[]⟩ [] []) := by show _ = _; unfold leafV; rw [if_neg (by omega), if_pos e]
   have h11 : m.k ≠ 11 := by omega
   clear e
   go_enter Tryz.func27, Tryz.ntmps27
   go_wp2_with fail
   exact bodyPost_ret (v := .tuple #[.agg #[.int .u8 1, .int .i64 0, .string ⟨#[]⟩, .slice none 0 0, .slice none 0 0], .int .i64 0]) (by simp [results, Tryz.results27, go_sem]) rfl ⟨HG.out _, ⟨1, 0, ⟨#[]⟩, none, 0, 0, none, 0, 0⟩, m, rfl, HL.out _ _ _ HE.out (by decide) (by decide) (by decide) (by decide) (by decide), HS.out _, h11⟩
 · rw [e] at hk
   have HE : Hid (leafV m = .mk 2 m.n ⟨#[]⟩ [] []) := by show _ = _; unfold leafV; rw [if_neg (by omega), if_neg (by omega), if_pos e]
   have h11 : m.k ≠ 11 := by omega
   clear e
   go_enter Tryz.func27, Tryz.ntmps27
   go_wp2_with fail
   exact bodyPost_ret (v := .tuple #[.agg #[.int .u8 2, .int .i64 m.n, .string ⟨#[]⟩, .slice none 0 0, .slice none 0 0], .int .i64 0]) (by simp [results, Tryz.results27, go_sem]) rfl ⟨HG.out _, ⟨2, m.n, ⟨#[]⟩, none, 0, 0, none, 0, 0⟩, m, rfl, HL.out _ _ _ HE.out (by decide) (by decide) n0 n1 (by decide), HS.out _, h11⟩
 · rw [e] at hk
   have HE : Hid (leafV m = .mk 3 0 ⟨m.t.toArray⟩ [] []) := by show _ = _; unfold leafV; rw [if_neg (by omega), if_neg (by omega), if_neg (by omega)]; rfl
   have h11 : m.k ≠ 11 := by omega
   clear e
   go_enter Tryz.func27, Tryz.ntmps27
   go_wp2_with fail
   exact bodyPost_ret (v := .tuple #[.agg #[.int .u8 3, .int .i64 0, .string ⟨m.t.toArray⟩, .slice none 0 0, .slice none 0 0], .int .i64 0]) (by simp [results, Tryz.results27, go_sem]) rfl ⟨HG.out _, ⟨3, 0, ⟨m.t.toArray⟩, none, 0, 0, none, 0, 0⟩, m, rfl, HL.out _ _ _ HE.out (by decide) (by decide) (by decide) (by decide) (by show m.t.length ≤ _; unfold maxLen; omega), HS.out _, h11⟩
set_option maxHeartbeats 2000000 in
theorem value_deep {w : World} {r : Nat} {s : ByteArray} {m : Mk} {ms : List Lx} {c : Nat} {d : Int} (h : StAt w r s m ms c d) (hcs : m.k = 1 ∨ m.k = 3) (hc : c < 8192) (hd : 12 ≤ d) :
   Calls Tryz.prog 27 #[.pointer (some ⟨r, 0, none⟩)] w (VPost (.bad m.a 8) s r d w) := by
 have hk := h.kcell
 have hcc := h.ccell
 have hdc := h.dcell
 have hlt := h.lt
 have hf := h.free
 have H := Lib.hid h
 have hc' : ¬ (8192 : Int) ≤ (c : Int) := by omega
 clear h
 rcases hcs with e | e
 all_goals
   rw [e] at hk
   clear e
   go_enter Tryz.func27, Tryz.ntmps27
   go_wp2_with fail
   exact bodyPost_ret (v := .tuple #[zeroV, .int .i64 8]) (by simp [results, Tryz.results27, go_sem, zeroV]) rfl ⟨grown_alloc (grown_set (World.grownBy.refl _ _) _ _) _, rfl, ((H.out.count _).keep (bel_alloc (Below.refl _ _) _)).bad, by decide⟩
end

section
set_option maxRecDepth 100000
open Go.RowKit
theorem infoVal : (Tryz.prog.info? 26).map (fun i => (i.zero, i.size, i.bytes)) = some (some zeroV, 5, 80) := by kernel_rfl
theorem ItemsOwn.snoc {wr w1 w5 : World} {B : Nat} {vI v' : Value} {xs : List XI} {x : VC} {V : JV} (h : ItemsOwn wr B vI xs) (hx : NewV wr.heap.size w1 V x.val) (hB : B ≤ wr.heap.size) (hsz : wr.heap.size ≤ w1.heap.size)
   (hv : v'.ownBlock = vI.ownBlock ∨ ∃ g, v'.ownBlock = some g ∧ w1.heap.size ≤ g) (hown : w5.ownsRow B 26 5 v' (xs.length + 1) (xiCells xs ++ x.cells))
   (hk : ∀ k, k < w1.heap.size → B ≤ k → vI.ownBlock ≠ some k → w5.heap[k]? = w1.heap[k]?) (hk0 : ∀ k, k < wr.heap.size → B ≤ k → w1.heap[k]? = wr.heap[k]?) : ItemsOwn w5 B v' (xs ++ [(x, V)]) := by
 have hne : ∀ k, k < w1.heap.size → vI.ownBlock ≠ some k → v'.ownBlock ≠ some k := fun k hk1 hk2 => by
   rcases hv with e | ⟨g, e, hg⟩
   · rw [e]; exact hk2
   · rw [e]; intro e2; cases e2; omega
 refine ⟨by rw [List.length_append, xiCells_snoc]; exact hown, fun y hy => ?_⟩
 rw [List.mem_append] at hy
 rcases hy with hy | hy
 · refine (h.2 y hy).carry fun k hk1 hk2 => ?_
   obtain ⟨a, b⟩ := offB_no.1 hk2
   exact ⟨offB_no.2 ⟨a, hne k (by omega) b⟩, (hk k (by omega) a b).trans (hk0 k hk1 a)⟩
 · simp only [List.mem_singleton] at hy
   subst hy
   refine ValAt.carry hx fun k hk1 hk2 => ?_
   have a := offB_none.1 hk2
   have b : vI.ownBlock ≠ some k := fun e => by
     have := (World.ownsRow.lt h.1 k e).2
     omega
   exact ⟨offB_no.2 ⟨by omega, hne k hk1 b⟩, hk k hk1 (by omega) b⟩
theorem ItemsOwn.set {w : World} {B b : Nat} {v : Value} {xs : List XI} (h : ItemsOwn w B v xs) (hb : b < B) (i : Nat) (u : Value) : ItemsOwn (w.setCell ⟨b, i, none⟩ u) B v xs :=
 h.kept hb (grown_set (World.grownBy.refl _ _) _ _)
def ValC (B : World) (s : ByteArray) (r d : Nat) : Prop := ∀ (w : World) (m : Mk) (ms : List Lx) (c : Nat), Bas B w r → StAt w r s m ms c (12 - d : Int) → Calls Tryz.prog 27 #[.pointer (some ⟨r, 0, none⟩)] w (VPost (valP d m ms c) s r (12 - d : Int) w)
theorem blk5 {w : World} {b : Nat} {T : TypeId} {v0 v1 v2 v3 v4 : Value} (h : BlkAt w b T #[v0, v1, v2, v3, v4]) :
   w.cell? ⟨b, 0, none⟩ = some v0 ∧ w.cell? ⟨b, 1, none⟩ = some v1 ∧ w.cell? ⟨b, 2, none⟩ = some v2 ∧ w.cell? ⟨b, 3, none⟩ = some v3 ∧ w.cell? ⟨b, 4, none⟩ = some v4 ∧ ∀ i, w.frozen? ⟨b, i, none⟩ = false :=
 ⟨h.cell 0, h.cell 1, h.cell 2, h.cell 3, h.cell 4, h.free⟩
theorem heap_set5 (w : World) (b k : Nat) (v0 v1 v2 v3 v4 : Value) (h : k ≠ b) :
   (((((w.setCell ⟨b, 0, none⟩ v0).setCell ⟨b, 1, none⟩ v1).setCell ⟨b, 2, none⟩ v2).setCell ⟨b, 3, none⟩ v3).setCell ⟨b, 4, none⟩ v4).heap[k]? = w.heap[k]? := by
 rw [Below.heap_setCell _ _ _ _ h, Below.heap_setCell _ _ _ _ h, Below.heap_setCell _ _ _ _ h, Below.heap_setCell _ _ _ _ h, Below.heap_setCell _ _ _ _ h]
theorem grown_set5 {w w' : World} {r b : Nat} (h : w.grownBy w' (some r)) (hb : w.heap.size ≤ b) (v0 v1 v2 v3 v4 : Value) :
   w.grownBy (((((w'.setCell ⟨b, 0, none⟩ v0).setCell ⟨b, 1, none⟩ v1).setCell ⟨b, 2, none⟩ v2).setCell ⟨b, 3, none⟩ v3).setCell ⟨b, 4, none⟩ v4) (some r) :=
 grown_set_new (grown_set_new (grown_set_new (grown_set_new (grown_set_new h hb _ _) hb _ _) hb _ _) hb _ _) hb _ _
def zeroCs : Array Value := #[.int .u8 0, .int .i64 0, .string ⟨#[]⟩, .slice none 0 0, .slice none 0 0]
theorem ItemsAt.carry {P Q : Nat → Bool} {w w' : World} {l : List JV} {v : Value} (h : ItemsAt (hidden P w) v l) (hk : ∀ k, k < w.heap.size → P k = false → Q k = false ∧ w'.heap[k]? = w.heap[k]?) : ItemsAt (hidden Q w') v l := by
 have h1 : ValAt (hidden P w) (.mk 0 0 ⟨#[]⟩ [] l) (.agg #[.int .u8 0, .int .i64 0, .string ⟨#[]⟩, .slice none 0 0, v]) := valAt_mk (by decide) (by decide) (by decide) (by decide) (by decide) (strsAt_nil _) h
 obtain ⟨vn, vi, e, -, -, -, -, -, -, hi⟩ := valAt_iff.1 (h1.carry hk)
 simp only [Value.agg.injEq, Array.mk.injEq, List.cons.injEq] at e
 obtain ⟨-, -, -, -, rfl, -⟩ := e
 exact hi
theorem blkAt_new (w : World) (cs : Array Value) (T : TypeId) : BlkAt (w.alloc (.cells cs T)) w.heap.size T cs := heap_alloc_last w _
theorem moreQ_go {last : Int} {ms r : List Lx} {m : Mk} (h : moreQ last ms = .go m r) : ∃ m2, ms = .tok m2 :: .tok m :: r := by
 unfold moreQ at h
 match ms with
 | [] => simp at h
 | .err p e :: tl => simp at h
 | .tok m2 :: r2 =>
   dsimp only at h
   by_cases h1 : m2.k = last
   · rw [if_pos h1] at h; simp at h
   rw [if_neg h1] at h
   by_cases h2 : m2.k = 5
   · rw [if_pos h2] at h
     match r2 with
     | [] => simp at h
     | .err p e :: tl => simp at h
     | .tok m3 :: r3 =>
       simp only [MQ.go.injEq] at h
       obtain ⟨rfl, rfl⟩ := h
       exact ⟨m2, rfl⟩
   · rw [if_neg h2] at h; simp at h
theorem moreQ_fin {last : Int} {ms r : List Lx} {m : Mk} (h : moreQ last ms = .fin m r) : m.k = last := by
 unfold moreQ at h
 match ms with
 | [] => simp at h
 | .err p e :: tl => simp at h
 | .tok m2 :: r2 =>
   dsimp only at h
   by_cases h1 : m2.k = last
   · rw [if_pos h1] at h
     simp only [MQ.fin.injEq] at h
     rw [← h.1]; exact h1
   rw [if_neg h1] at h
   by_cases h2 : m2.k = 5
   · rw [if_pos h2] at h
     match r2 with
     | [] => simp at h
     | .err p e :: tl => simp at h
     | .tok m3 :: r3 => simp at h
   · rw [if_neg h2] at h; simp at h
set_option maxHeartbeats 8000000 in
theorem list_any {B w : World} {r d : Nat} {s : ByteArray} {m : Mk} {ms : List Lx} {c : Nat} (hs : s.size ≤ 65536) (hV : ValC B s r d) (hB : Bas B w r) (h : StAt w r s m ms c (12 - d : Int)) (hk : m.k ≠ 11) (hc : c ≤ 8192) (R : PR JV) (hR : Hid (listP (valP d) ms c = R)) :
   Calls Tryz.prog 59 #[.pointer (some ⟨r, 0, none⟩)] w (VPost R s r (12 - d : Int) w) := by
 have hlt := h.lt
 obtain ⟨dd, hdd⟩ : ∃ dd : Int, (12 - d : Int) = dd := ⟨_, rfl⟩
 have HDD := Lib.hid hdd
 rw [hdd] at h ⊢
 have hrb0 : BlkAt ((w.alloc (.cells zeroCs 26)).alloc (.cells #[.int .u8 4, .int .i64 0, .string ⟨#[]⟩, .slice none 0 0, .slice none 0 0] 26)) w.heap.size 26 zeroCs := (blkAt_new w zeroCs _).alloc _
 have hvb0 : BlkAt ((w.alloc (.cells zeroCs 26)).alloc (.cells #[.int .u8 4, .int .i64 0, .string ⟨#[]⟩, .slice none 0 0, .slice none 0 0] 26)) (w.heap.size + 1) 26 #[.int .u8 4, .int .i64 0, .string ⟨#[]⟩, .slice none 0 0, .slice none 0 0] := by
   have := blkAt_new (w.alloc (.cells zeroCs 26)) #[.int .u8 4, .int .i64 0, .string ⟨#[]⟩, .slice none 0 0, .slice none 0 0] 26
   rwa [size_al] at this
 have hb0 : Below w.heap.size w ((w.alloc (.cells zeroCs 26)).alloc (.cells #[.int .u8 4, .int .i64 0, .string ⟨#[]⟩, .slice none 0 0, .slice none 0 0] 26)) := bel_alloc (bel_alloc (Below.refl _ _) _) _
 have hs0 : ((w.alloc (.cells zeroCs 26)).alloc (.cells #[.int .u8 4, .int .i64 0, .string ⟨#[]⟩, .slice none 0 0, .slice none 0 0] 26)).heap.size = w.heap.size + 2 := by rw [size_al, size_al]
 match ms with
 | [] => exact absurd h.nonil hk
 | .err p e :: tl =>
   have hne := h.err
   have heb : (e != 0) = true := by rw [bne_iff_ne]; exact hne
   have hr := hR.out
   subst hr
   have HN := Lib.hid (next_err hs (hB.grown (grown_of hb0 _)) (h.keep hb0) hk (Lib.hid rfl))
   have HRB := Lib.hid hrb0
   have HB0 := Lib.hid hb0
   clear hR hB h hb0 hrb0 hvb0 hs0 hdd
   go_enter Tryz.func59, Tryz.ntmps59
   go_wp2_with fail
   refine HN.out.mono ?_
   rintro e' w' ⟨rfl, hg, hb⟩
   obtain ⟨z0, z1, z2, z3, z4, zf⟩ := blk5 (HRB.out.grown hg (by intro e; cases e; omega))
   have hg' : w.grownBy w' (some r) := (grown_of HB0.out _).trans hg
   go_wp2_with fail
   exact bodyPost_ret (v := .tuple #[zeroV, .int .i64 e]) (by simp [results, Tryz.results59, go_sem, zeroV, z0, z1, z2, z3, z4]) rfl ⟨grown_set5 hg' (Nat.le_refl _) _ _ _ _ _, rfl, hb.same (heap_set5 _ _ _ _ _ _ _ _ (by omega)), hne⟩
 | .tok m2 :: r2 =>
   have HN := Lib.hid (next_tok hs (hB.grown (grown_of hb0 _)) (h.keep hb0) hk (Lib.hid rfl))
   have HRB := Lib.hid hrb0
   have HVB := Lib.hid hvb0
   have HB0 := Lib.hid hb0
   have HS0 := Lib.hid hs0
   have HBas := Lib.hid hB
   have HDD := Lib.hid hdd
   have hr := hR.out
   unfold listP at hr
   dsimp only [nextL] at hr
   by_cases h4 : m2.k = 4
   · rw [if_pos h4] at hr
     subst hr
     have hb4 : (m2.k == 4) = true := by rw [h4]; rfl
     have h11 : m2.k ≠ 11 := by omega
     clear hR hB h hb0 hrb0 hvb0 hs0 hdd h4
     go_enter Tryz.func59, Tryz.ntmps59
     go_wp2_with fail
     refine HN.out.mono ?_
     rintro e' w' ⟨rfl, hg, hst⟩
     obtain ⟨z0, z1, z2, z3, z4, zf⟩ := blk5 (HRB.out.grown hg (by intro e; cases e; omega))
     obtain ⟨y0, y1, y2, y3, y4, yf⟩ := blk5 (HVB.out.grown hg (by intro e; cases e; omega))
     have hg' : w.grownBy w' (some r) := (grown_of HB0.out _).trans hg
     have hkc := hst.kcell
     have HST := Lib.hid hst
     clear hst
     go_wp2_with fail
     exact bodyPost_ret (v := .tuple #[.agg #[.int .u8 4, .int .i64 0, .string ⟨#[]⟩, .slice none 0 0, .slice none 0 0], .int .i64 0]) (by simp [results, Tryz.results59, go_sem, z0, z1, z2, z3, z4]) rfl ⟨grown_set5 hg' (Nat.le_refl _) _ _ _ _ _, ⟨4, 0, ⟨#[]⟩, none, 0, 0, none, 0, 0⟩, m2, rfl, valAt_leaf _ 4 0 ⟨#[]⟩ (by decide) (by decide) (by decide) (by decide) (by decide), HST.out.same (heap_set5 _ _ _ _ _ _ _ _ (by omega)), h11⟩
   · rw [if_neg h4] at hr
     have HRR : Hid (itemsP (valP d) (r2.length + 1) m2 r2 c [] = R) := hr
     have hb4 : (m2.k == 4) = false := beq_eq_false_iff_ne.2 h4
     obtain ⟨i0, hi, hz0, hz1, hz2⟩ := info_parts infoVal
     have HI := Lib.hid hi
     have HZ0 := Lib.hid hz0
     have HZ1 := Lib.hid hz1
     have HZ2 := Lib.hid hz2
     clear hr hR hB h hb0 hrb0 hvb0 hs0 hdd h4 hi hz0 hz1 hz2
     go_enter Tryz.func59, Tryz.ntmps59
     go_wp2_with fail
     refine HN.out.mono ?_
     rintro e' w' ⟨rfl, hg, hst⟩
     have HZB : Hid (BlkAt w' w.heap.size 26 zeroCs) := HRB.out.grown hg (by intro e; cases e; omega)
     have HYB : Hid (BlkAt w' (w.heap.size + 1) 26 #[.int .u8 4, .int .i64 0, .string ⟨#[]⟩, .slice none 0 0, .slice none 0 0]) := HVB.out.grown hg (by intro e; cases e; omega)
     have hg' : w.grownBy w' (some r) := (grown_of HB0.out _).trans hg
     have hs2 : w.heap.size + 2 ≤ w'.heap.size := by have := hg.size; rw [HS0.out] at this; exact this
     have hkc := hst.kcell
     have HST := Lib.hid hst
     clear hst hg HN HRB HVB HB0 HS0
     go_wp2_with fail
     clear hkc
     go_loopg [7] r2.length (fun gk u wr => ∃ (mk : Mk) (ms' : List Lx) (c' : Nat) (xs : List XI) (a : Option Addr) (l cp f : Nat), gk = ms'.length ∧ ms'.length < f ∧ xs.length ≤ c' ∧ c' ≤ 8192 ∧ w.heap.size + 2 ≤ wr.heap.size ∧ Hid (StAt wr r s mk ms' c' dd) ∧ Hid (BlkAt wr w.heap.size 26 zeroCs) ∧
       Hid (BlkAt wr (w.heap.size + 1) 26 #[.int .u8 4, .int .i64 0, .string ⟨#[]⟩, .slice none 0 0, .slice a l cp]) ∧ Hid (ItemsOwn wr (w.heap.size + 2) (.slice a l cp) xs) ∧ Hid (w.grownBy wr (some r)) ∧ Hid (itemsP (valP d) f mk ms' c' (xs.map Prod.snd) = R))
     case atStart => exact ⟨m2, r2, c, [], none, 0, 0, r2.length + 1, rfl, by omega, by simp, hc, hs2, HST, HZB, HYB, ItemsOwn.nil _ _, hg', HRR⟩
     case round =>
       obtain ⟨mk, ms', c', xs, a, l, cp, f, rfl, hf, hxs, hc', hs3, HSt, HZb, HYb, HIt, HGr, HRr⟩ := hrel
       clear HST HZB HYB hg' HRR hs2
       obtain ⟨f', rfl⟩ : ∃ f', f = f' + 1 := ⟨f - 1, by omega⟩
       obtain ⟨R1, hR1⟩ : ∃ R1, valP d mk ms' c' = R1 := ⟨_, rfl⟩
       have HC := Lib.hid (hV wr mk ms' c' (HBas.out.grown HGr.out) (by rw [HDD.out]; exact HSt.out))
       rw [HDD.out, hR1] at HC
       have hstep := HRr.out
       rw [itemsP, hR1] at hstep
       cases R1 with
       | bad p er =>
         dsimp only at hstep
         subst hstep
         clear hR1 HRr
         go_wp2_with fail
         refine HC.out.mono ?_
         rintro e' w1 ⟨hg1, rfl, hbad, hne⟩
         have heb : (er != 0) = true := by rw [bne_iff_ne]; exact hne
         have hs1 := hg1.size
         have hZ1 := HZb.out.grown hg1 (by intro e; cases e; omega)
         obtain ⟨z0, z1, z2, z3, z4, zf⟩ := blk5 (hZ1.alloc (.cells #[.int .u8 0, .int .i64 0, .string ⟨#[]⟩, .slice none 0 0, .slice none 0 0] 26))
         have hg2 := HGr.out.trans hg1
         simp only [zeroV]
         go_wp2_with fail
         have hr1 : r < w1.heap.size := by omega
         exact bodyPost_ret (v := .tuple #[zeroV, .int .i64 er]) (by simp [results, Tryz.results59, go_sem, zeroV, z0, z1, z2, z3, z4]) rfl ⟨grown_set5 (grown_alloc hg2 _) (Nat.le_refl _) _ _ _ _ _, rfl, hbad.same ((heap_set5 _ _ _ _ _ _ _ _ (by omega)).trans ((bel_alloc (Below.refl w1.heap.size w1) _).block r hr1)), hne⟩
       | ok V ms1 c1 =>
         dsimp only at hstep
         rw [moreP_Q] at hstep
         obtain ⟨hcnt1, hcnt2⟩ := val_count d _ _ _ _ _ _ hR1
         obtain ⟨pre1, -, hpre, -⟩ := val_takes d _ _ _ _ _ _ hR1
         have hml : ms'.length = pre1.length + ms1.length := by rw [hpre, List.length_append]
         obtain ⟨R2, hR2⟩ : ∃ R2, moreQ 4 ms1 = R2 := ⟨_, rfl⟩
         rw [hR2] at hstep
         have HR2 := Lib.hid hR2
         have HSTEP := Lib.hid hstep
         have HML := Lib.hid hml
         clear hR1 HRr hR2 hstep hpre hml
         go_wp2_with fail
         refine HC.out.mono ?_
         rintro e' w1 ⟨hg1, ⟨xk, xn, xt, xa, xl, xc, xb, xm, xe⟩, m1, rfl, hnew, hst1, hk1⟩
         simp only [VC.val]
         have hs1 := hg1.size
         have HZ1b : Hid (BlkAt w1 w.heap.size 26 zeroCs) := HZb.out.grown hg1 (by intro e; cases e; omega)
         have HY1b : Hid (BlkAt w1 (w.heap.size + 1) 26 #[.int .u8 4, .int .i64 0, .string ⟨#[]⟩, .slice none 0 0, .slice a l cp]) := HYb.out.grown hg1 (by intro e; cases e; omega)
         have HI1 : Hid (ItemsOwn w1 (w.heap.size + 2) (.slice a l cp) xs) := HIt.out.kept (by omega) hg1
         have HG1 : Hid (w.grownBy w1 (some r)) := HGr.out.trans hg1
         have HGq := Lib.hid hg1
         have HSt1 := Lib.hid hst1
         have HNew := Lib.hid hnew
         clear hg1 hst1 hnew HC
         obtain ⟨-, -, -, -, y4, yf⟩ := blk5 (HY1b.out.alloc (.cells #[.int .u8 xk, .int .i64 xn, .string xt, .slice xa xl xc, .slice xb xm xe] 26))
         go_wp2_with (at_builtin; refine wpList_append_own_at _ rfl _ _ 24 rfl (w.heap.size + 2) 26 i0 zeroV 5 80 Tryz.underlying24 HI.out HZ0.out HZ1.out HZ2.out rfl (by decide) _ _ _ rfl (World.ownsRow.alloc (World.ownsRow.alloc HI1.out.1 _) _) ⟨w1.heap.size + 1, 0, none⟩ 1 1 [.int .u8 xk, .int .i64 xn, .string xt, .slice xa xl xc, .slice xb xm xe] rfl rfl ?c1 ?c2 ?c3 ?c4 ?c5 ?_)
         case c1 =>
           intro j u hj
           have hadd : (⟨w1.heap.size + 1, 0, none⟩ : Addr).add j = ⟨w1.heap.size + 1, j, none⟩ := by unfold Addr.add; split <;> simp_all
           rw [hadd, cell_al_eq _ _ _ _ _ (by rw [size_al])]
           simpa using hj
         case c2 =>
           intro u hu
           simp only [List.mem_cons, List.not_mem_nil, or_false] at hu
           rcases hu with rfl | rfl | rfl | rfl | rfl <;> rfl
         case c3 => unfold maxLen; omega
         case c4 => omega
         case c5 => rw [size_al, size_al]; omega
         intro v' w4 hown4 hgrow _ hblk
         obtain ⟨g', cp', rfl, -, -⟩ := World.ownsRow.form hown4 (by omega)
         have hwa : ∀ k, k < w1.heap.size → ((w1.alloc (.cells #[.int .u8 xk, .int .i64 xn, .string xt, .slice xa xl xc, .slice xb xm xe] 26)).alloc (.cells #[.int .u8 xk, .int .i64 xn, .string xt, .slice xa xl xc, .slice xb xm xe] 26)).heap[k]? = w1.heap[k]? := fun k hk => (bel_alloc (bel_alloc (Below.refl _ _) _) _).block k hk
         have hwb : ∀ k, k < w1.heap.size → (Value.slice a l cp).ownBlock ≠ some k → w4.heap[k]? = w1.heap[k]? := fun k hk hne => (hgrow.block k (by rw [size_al, size_al]; omega) (fun e => hne e.symm)).trans (hwa k hk)
         have hlo : ∀ k, k < w.heap.size + 2 → (Value.slice a l cp).ownBlock ≠ some k := fun k hk e => by have := (World.ownsRow.lt HI1.out.1 k e).1; omega
         have hs4 : w1.heap.size + 2 ≤ w4.heap.size := by have := hgrow.size; rw [size_al, size_al] at this; omega
         have HZ4 : Hid (BlkAt w4 w.heap.size 26 zeroCs) := (hwb _ (by omega) (hlo _ (by omega))).trans HZ1b.out
         have HY4 : Hid (BlkAt w4 (w.heap.size + 1) 26 #[.int .u8 4, .int .i64 0, .string ⟨#[]⟩, .slice none 0 0, .slice a l cp]) := (hwb _ (by omega) (hlo _ (by omega))).trans HY1b.out
         have HS4 : Hid (StAt w4 r s m1 ms1 c1 dd) := HSt1.out.same (hwb _ (by omega) (hlo _ (by omega)))
         have HG4 : Hid (w.grownBy w4 (some r)) := ⟨hgrow.os.trans HG1.out.os, hgrow.tape.trans HG1.out.tape, hgrow.output.trans HG1.out.output, by omega, fun k hk hne => (hwb k (by omega) (hlo k (by omega))).trans (HG1.out.block k hk hne)⟩
         have HI4 : Hid (ItemsOwn w4 (w.heap.size + 2) (.slice (some ⟨g', 0, none⟩) (xs.length + 1) cp') (xs ++ [(⟨xk, xn, xt, xa, xl, xc, xb, xm, xe⟩, V)])) :=
           ItemsOwn.snoc HIt.out HNew.out hs3 hs1 (hblk.imp_right fun e => ⟨_, e, by omega⟩) hown4 (fun k hk _ hne => hwb k hk hne) (fun k hk hB => HGq.out.block k hk (fun e => by cases e; omega))
         obtain ⟨-, -, -, -, q4, qf⟩ := blk5 HY4.out
         clear hown4 hgrow hblk hwa hwb HI1 HZ1b HY1b HSt1 HNew HGq HG1 HIt HGr HYb HZb HSt yf y4
         go_wp2_with fail
         have hwc : ∀ k, k ≠ w.heap.size + 1 → (w4.setCell ⟨w.heap.size + 1, 4, none⟩ (.slice (some ⟨g', 0, none⟩) (xs.length + 1) cp')).heap[k]? = w4.heap[k]? := fun k hk => Below.heap_setCell _ _ _ _ hk
         have HZ5 : Hid (BlkAt (w4.setCell ⟨w.heap.size + 1, 4, none⟩ (.slice (some ⟨g', 0, none⟩) (xs.length + 1) cp')) w.heap.size 26 zeroCs) := (hwc _ (by omega)).trans HZ4.out
         have HY5 : Hid (BlkAt (w4.setCell ⟨w.heap.size + 1, 4, none⟩ (.slice (some ⟨g', 0, none⟩) (xs.length + 1) cp')) (w.heap.size + 1) 26 #[.int .u8 4, .int .i64 0, .string ⟨#[]⟩, .slice none 0 0, .slice (some ⟨g', 0, none⟩) (xs.length + 1) cp']) := BlkAt.set HY4.out 4 _
         have HS5 : Hid (StAt (w4.setCell ⟨w.heap.size + 1, 4, none⟩ (.slice (some ⟨g', 0, none⟩) (xs.length + 1) cp')) r s m1 ms1 c1 dd) := HS4.out.same (hwc _ (by omega))
         have HG5 : Hid (w.grownBy (w4.setCell ⟨w.heap.size + 1, 4, none⟩ (.slice (some ⟨g', 0, none⟩) (xs.length + 1) cp')) (some r)) := grown_set_new HG4.out (by omega) _ _
         have HI5 : Hid (ItemsOwn (w4.setCell ⟨w.heap.size + 1, 4, none⟩ (.slice (some ⟨g', 0, none⟩) (xs.length + 1) cp')) (w.heap.size + 2) (.slice (some ⟨g', 0, none⟩) (xs.length + 1) cp') (xs ++ [(⟨xk, xn, xt, xa, xl, xc, xb, xm, xe⟩, V)])) := HI4.out.set (by omega) _ _
         have hs5 : w1.heap.size + 2 ≤ (w4.setCell ⟨w.heap.size + 1, 4, none⟩ (.slice (some ⟨g', 0, none⟩) (xs.length + 1) cp')).heap.size := by show _ ≤ (w4.heap.modify _ _).size; rw [Array.size_modify]; exact hs4
         generalize w4.setCell ⟨w.heap.size + 1, 4, none⟩ (.slice (some ⟨g', 0, none⟩) (xs.length + 1) cp') = w5 at HZ5 HY5 HS5 HG5 HI5 hs5 ⊢
         clear hwc HZ4 HY4 HS4 HG4 HI4 hs4 qf q4 hlo
         have HM := Lib.hid (more_any hs (HBas.out.grown HG5.out) HS5.out hk1 4 R2 HR2)
         cases R2 with
         | bad p er =>
           have hfin := HSTEP.out
           dsimp only at hfin
           subst hfin
           refine HM.out.mono ?_
           rintro e' w6 ⟨hg6, rfl, hbad, hne⟩
           have heb : (er != 0) = true := by rw [bne_iff_ne]; exact hne
           have hs6 := hg6.size
           obtain ⟨z0, z1, z2, z3, z4, zf⟩ := blk5 (HZ5.out.grown hg6 (by intro e; cases e; omega))
           have hg' := HG5.out.trans hg6
           go_wp2_with fail
           exact bodyPost_ret (v := .tuple #[zeroV, .int .i64 er]) (by simp [results, Tryz.results59, go_sem, zeroV, z0, z1, z2, z3, z4]) rfl ⟨grown_set5 hg' (Nat.le_refl _) _ _ _ _ _, rfl, hbad.same (heap_set5 _ _ _ _ _ _ _ _ (by omega)), hne⟩
         | fin m6 ms6 =>
           have hfin := HSTEP.out
           dsimp only at hfin
           subst hfin
           refine HM.out.mono ?_
           rintro e' w6 ⟨hg6, rfl, hst6⟩
           have hs6 := hg6.size
           obtain ⟨z0, z1, z2, z3, z4, zf⟩ := blk5 (HZ5.out.grown hg6 (by intro e; cases e; omega))
           obtain ⟨y0, y1, y2, y3, y4, yf⟩ := blk5 (HY5.out.grown hg6 (by intro e; cases e; omega))
           have hg' := HG5.out.trans hg6
           have HI6 : Hid (ItemsOwn w6 (w.heap.size + 2) (.slice (some ⟨g', 0, none⟩) (xs.length + 1) cp') (xs ++ [(⟨xk, xn, xt, xa, xl, xc, xb, xm, xe⟩, V)])) := HI5.out.kept (by omega) hg6
           have HST := Lib.hid hst6
           have h11 : m6.k ≠ 11 := by have := moreQ_fin HR2.out; omega
           clear hst6
           go_wp2_with fail
           have hnew : NewV w.heap.size (((((w6.setCell ⟨w.heap.size, 0, none⟩ (.int .u8 4)).setCell ⟨w.heap.size, 1, none⟩ (.int .i64 0)).setCell ⟨w.heap.size, 2, none⟩ (.string ⟨#[]⟩)).setCell ⟨w.heap.size, 3, none⟩ (.slice none 0 0)).setCell ⟨w.heap.size, 4, none⟩ (.slice (some ⟨g', 0, none⟩) (xs.length + 1) cp')) (listV (xs.map Prod.snd ++ [V])) (.agg #[.int .u8 4, .int .i64 0, .string ⟨#[]⟩, .slice none 0 0, .slice (some ⟨g', 0, none⟩) (xs.length + 1) cp']) := by
             have hout := HI6.out.out (by rw [List.length_append]; simp; omega)
             rw [List.map_append] at hout
             exact valAt_mk (by decide) (by decide) (by decide) (by decide) (by decide) (strsAt_nil _) (hout.carry fun k hk hP => ⟨offB_none.2 (by have := offB_none.1 hP; omega), heap_set5 _ _ _ _ _ _ _ _ (by have := offB_none.1 hP; omega)⟩)
           exact bodyPost_ret (v := .tuple #[.agg #[.int .u8 4, .int .i64 0, .string ⟨#[]⟩, .slice none 0 0, .slice (some ⟨g', 0, none⟩) (xs.length + 1) cp'], .int .i64 0]) (by simp [results, Tryz.results59, go_sem, z0, z1, z2, z3, z4]) rfl ⟨grown_set5 hg' (Nat.le_refl _) _ _ _ _ _, ⟨4, 0, ⟨#[]⟩, none, 0, 0, some ⟨g', 0, none⟩, xs.length + 1, cp'⟩, m6, rfl, hnew, HST.out.same (heap_set5 _ _ _ _ _ _ _ _ (by omega)), h11⟩
         | go m6 ms6 =>
           have hfin := HSTEP.out
           dsimp only at hfin
           have HFIN := Lib.hid hfin
           obtain ⟨mc, hmc⟩ := moreQ_go HR2.out
           have hlen : ms1.length = ms6.length + 2 := by rw [hmc]; simp
           have hml := HML.out
           clear hfin hmc
           refine HM.out.mono ?_
           rintro e' w6 ⟨hg6, rfl, hst6⟩
           have hs6 := hg6.size
           have HZ6 : Hid (BlkAt w6 w.heap.size 26 zeroCs) := HZ5.out.grown hg6 (by intro e; cases e; omega)
           have HY6 : Hid (BlkAt w6 (w.heap.size + 1) 26 #[.int .u8 4, .int .i64 0, .string ⟨#[]⟩, .slice none 0 0, .slice (some ⟨g', 0, none⟩) (xs.length + 1) cp']) := HY5.out.grown hg6 (by intro e; cases e; omega)
           have HG6 : Hid (w.grownBy w6 (some r)) := HG5.out.trans hg6
           have HI6 : Hid (ItemsOwn w6 (w.heap.size + 2) (.slice (some ⟨g', 0, none⟩) (xs.length + 1) cp') (xs ++ [(⟨xk, xn, xt, xa, xl, xc, xb, xm, xe⟩, V)])) := HI5.out.kept (by omega) hg6
           have HST := Lib.hid hst6
           clear hst6
           go_wp2_with fail
           go_roundg ms6.length
           case rel => exact ⟨m6, ms6, c1, xs ++ [(⟨xk, xn, xt, xa, xl, xc, xb, xm, xe⟩, V)], _, _, _, f', rfl, by omega, by rw [List.length_append, List.length_singleton]; omega, hcnt2, by omega, HST, HZ6, HY6, HI6, HG6, by rw [List.map_append]; exact HFIN⟩
           case measure => omega
end

section
set_option maxRecDepth 100000
open Go.RowKit
structure Sep (w w' : World) (o : Nat) (r : Option Nat) : Prop where
 os : w'.os = w.os
 tape : w'.tape = w.tape
 output : w'.output = w.output
 size : w.heap.size ≤ w'.heap.size
 block : ∀ k, k < w.heap.size → k ≠ o → some k ≠ r → w'.heap[k]? = w.heap[k]?
theorem Sep.of_below {w w' : World} (h : Below w.heap.size w w') (o : Nat) (r : Option Nat) : Sep w w' o r := ⟨h.os, h.tape, h.output, h.size, fun k hk _ _ => h.block k hk⟩
theorem Sep.more {w w1 w' : World} {o : Nat} {r : Option Nat} (h : Below w.heap.size w w1) (k : Sep w1 w' o r) : Sep w w' o r :=
 ⟨k.os.trans h.os, k.tape.trans h.tape, k.output.trans h.output, Nat.le_trans h.size k.size, fun i hi h1 h2 => (k.block i (Nat.lt_of_lt_of_le hi h.size) h1 h2).trans (h.block i hi)⟩
theorem Sep.grown {w w' w2 : World} {o : Nat} {r : Option Nat} (h : Sep w w' o r) (k : w'.grownBy w2 r) : Sep w w2 o r :=
 ⟨k.os.trans h.os, k.tape.trans h.tape, k.output.trans h.output, Nat.le_trans h.size k.size, fun i hi h1 h2 => (k.block i (Nat.lt_of_lt_of_le hi h.size) h2).trans (h.block i hi h1 h2)⟩
theorem Sep.set {w w' : World} {o : Nat} {r : Option Nat} (h : Sep w w' o r) (i : Nat) (v : Value) : Sep w (w'.setCell ⟨o, i, none⟩ v) o r :=
 ⟨h.os, h.tape, h.output, by show _ ≤ (w'.heap.modify _ _).size; rw [Array.size_modify]; exact h.size, fun k hk h1 h2 => (Below.heap_setCell _ _ _ _ h1).trans (h.block k hk h1 h2)⟩
theorem Sep.set_new {w w' : World} {o : Nat} {r : Option Nat} (h : Sep w w' o r) {b : Nat} (hb : w.heap.size ≤ b) (i : Nat) (v : Value) : Sep w (w'.setCell ⟨b, i, none⟩ v) o r :=
 ⟨h.os, h.tape, h.output, by show _ ≤ (w'.heap.modify _ _).size; rw [Array.size_modify]; exact h.size, fun k hk h1 h2 => (Below.heap_setCell _ _ _ _ (fun e => by have : k = b := e; omega)).trans (h.block k hk h1 h2)⟩
theorem Sep.alloc {w w' : World} {o : Nat} {r : Option Nat} (h : Sep w w' o r) (ob : Obj) : Sep w (w'.alloc ob) o r :=
 ⟨h.os, h.tape, h.output, by rw [size_al]; exact Nat.le_succ_of_le h.size, fun k hk h1 h2 => ((bel_alloc (Below.refl _ w') ob).block k (Nat.lt_of_lt_of_le hk h.size)).trans (h.block k hk h1 h2)⟩
theorem Sep.below {w0 w w' : World} {o : Nat} {r : Option Nat} (h : Sep w w' o r) (hb : Below w0.heap.size w0 w) (ho : w0.heap.size ≤ o) (hr : ∀ k, r = some k → w0.heap.size ≤ k) : Below w0.heap.size w0 w' :=
 ⟨h.os.trans hb.os, h.tape.trans hb.tape, h.output.trans hb.output, Nat.le_trans hb.size h.size, fun k hk => (h.block k (Nat.lt_of_lt_of_le hk hb.size) (by omega) (fun e => by have := hr k e.symm; omega)).trans (hb.block k hk)⟩
theorem b7 {w : World} {b : Nat} {T : TypeId} {v0 v1 v2 v3 v4 v5 v6 : Value} (h : BlkAt w b T #[v0, v1, v2, v3, v4, v5, v6]) :
   w.cell? ⟨b, 0, none⟩ = some v0 ∧ w.cell? ⟨b, 1, none⟩ = some v1 ∧ w.cell? ⟨b, 2, none⟩ = some v2 ∧ w.cell? ⟨b, 3, none⟩ = some v3 ∧ w.cell? ⟨b, 4, none⟩ = some v4 ∧ w.cell? ⟨b, 5, none⟩ = some v5 ∧ w.cell? ⟨b, 6, none⟩ = some v6 ∧ ∀ i, w.frozen? ⟨b, i, none⟩ = false :=
 ⟨h.cell 0, h.cell 1, h.cell 2, h.cell 3, h.cell 4, h.cell 5, h.cell 6, h.free⟩
theorem Sep.set5 {w w' : World} {o : Nat} {r : Option Nat} (h : Sep w w' o r) {b : Nat} (hb : w.heap.size ≤ b) (v0 v1 v2 v3 v4 : Value) : Sep w (((((w'.setCell ⟨b, 0, none⟩ v0).setCell ⟨b, 1, none⟩ v1).setCell ⟨b, 2, none⟩ v2).setCell ⟨b, 3, none⟩ v3).setCell ⟨b, 4, none⟩ v4) o r :=
 ((((h.set_new hb 0 v0).set_new hb 1 v1).set_new hb 2 v2).set_new hb 3 v3).set_new hb 4 v4
theorem far5 {w : World} {r b : Nat} {T : TypeId} {cs : Array Value} (h : BlkAt w r T cs) (hne : b ≠ r) (v0 v1 v2 v3 v4 : Value) : BlkAt (((((w.setCell ⟨b, 0, none⟩ v0).setCell ⟨b, 1, none⟩ v1).setCell ⟨b, 2, none⟩ v2).setCell ⟨b, 3, none⟩ v3).setCell ⟨b, 4, none⟩ v4) r T cs :=
 ((((h.set_far hne 0 v0).set_far hne 1 v1).set_far hne 2 v2).set_far hne 3 v3).set_far hne 4 v4
theorem row_far5 {w : World} {B : Nat} {T : TypeId} {n m : Nat} {v : Value} {xs : List Value} (h : w.ownsRow B T m v n xs) {b : Nat} (hne : some b ≠ v.ownBlock) (v0 v1 v2 v3 v4 : Value) : (((((w.setCell ⟨b, 0, none⟩ v0).setCell ⟨b, 1, none⟩ v1).setCell ⟨b, 2, none⟩ v2).setCell ⟨b, 3, none⟩ v3).setCell ⟨b, 4, none⟩ v4).ownsRow B T m v n xs :=
 h.kept (grown_set (grown_set (grown_set (grown_set (grown_set (World.grownBy.refl _ _) _ _) _ _) _ _) _ _) _ _) (by
   cases hv : v.ownBlock with
   | none => exact Or.inl rfl
   | some g => right; rw [hv] at hne; exact fun e => hne e.symm)
theorem row_far {w : World} {B : Nat} {T : TypeId} {n m : Nat} {v : Value} {xs : List Value} (h : w.ownsRow B T m v n xs) {b : Nat} (hne : some b ≠ v.ownBlock) (i : Nat) (v0 : Value) : (w.setCell ⟨b, i, none⟩ v0).ownsRow B T m v n xs :=
 h.kept (grown_set (World.grownBy.refl _ _) _ _) (by
   cases hv : v.ownBlock with
   | none => exact Or.inl rfl
   | some g => right; rw [hv] at hne; exact fun e => hne e.symm)
structure DOk (Q w0 w : World) (o M : Nat) (V : JV) (x : VC) (av : Value) (A : List ByteArray) : Prop where
 bel : Below w0.heap.size w0 w
 sub : ∀ p u, Q.cell? p = some u → w0.cell? p = some u
 val : ValAt Q V x.val
 five : V.k = 5
 len : V.names.length = V.items.length
 lo : w0.heap.size ≤ o
 lm : o < M
 blk : BlkAt w o 81 #[.int .u8 x.k, .int .i64 x.n, .string x.t, .slice x.a x.l x.c, .slice x.b x.m x.e, av, .int .i64 0]
 row : w.ownsRow M 9 1 av A.length (A.map Value.string)
 short : A.length ≤ 1000
 size : ∀ s ∈ A, s.size ≤ maxLen
structure DBad (w0 w : World) (o : Nat) (e : Int) : Prop where
 bel : Below w0.heap.size w0 w
 lo : w0.heap.size ≤ o
 ne : e ≠ 0
 blk : ∃ c0 c1 c2 c3 c4 c5, BlkAt w o 81 #[c0, c1, c2, c3, c4, c5, .int .i64 e]
def DSt (Q w0 w : World) (o M : Nat) (V : JV) (x : VC) (av : Value) : PS → Prop
 | .bad e => DBad w0 w o e
 | .ok A => DOk Q w0 w o M V x av A
theorem DBad.later {w0 w w' : World} {o : Nat} {e : Int} (h : DBad w0 w o e) (hb : Below w0.heap.size w0 w') (hk : w'.heap[o]? = w.heap[o]?) : DBad w0 w' o e := by
 obtain ⟨c0, c1, c2, c3, c4, c5, hc⟩ := h.blk
 exact ⟨hb, h.lo, h.ne, c0, c1, c2, c3, c4, c5, hk.trans hc⟩
theorem DOk.avlt {Q w0 w : World} {o M : Nat} {V : JV} {x : VC} {av : Value} {A : List ByteArray} (h : DOk Q w0 w o M V x av A) : ∀ k, av.ownBlock = some k → M ≤ k ∧ k < w.heap.size := fun k hk => World.ownsRow.lt h.row k hk
theorem DOk.later {Q w0 w w' : World} {o M : Nat} {V : JV} {x : VC} {av : Value} {A : List ByteArray} (h : DOk Q w0 w o M V x av A) (hb : Below w0.heap.size w0 w') (hg : ∀ k, k < w.heap.size → (k = o ∨ av.ownBlock = some k) → w'.heap[k]? = w.heap[k]?) : DOk Q w0 w' o M V x av A := by
 have h1 := BlkAt.lt h.blk
 refine ⟨hb, h.sub, h.val, h.five, h.len, h.lo, h.lm, (hg o h1 (Or.inl rfl)).trans h.blk, ?_, h.short, h.size⟩
 obtain ⟨r1, r2⟩ := h.row
 refine ⟨r1, ?_⟩
 rcases r2 with r2 | ⟨g, cap, cur, hv, hb2, hc, r⟩
 · exact Or.inl r2
 · subst hv
   exact Or.inr ⟨g, cap, cur, rfl, hb2, by rw [hg g (Array.getElem?_eq_some_iff.1 hc).1 (Or.inr rfl)]; exact hc, r⟩
theorem DSt.keep {Q w0 w w' : World} {o M : Nat} {V : JV} {x : VC} {av : Value} {s : PS} (h : DSt Q w0 w o M V x av s) (hb : Below w.heap.size w w') : DSt Q w0 w' o M V x av s := by
 cases s with
 | bad e =>
   obtain ⟨c0, c1, c2, c3, c4, c5, hc⟩ := DBad.blk h
   exact DBad.later h (below_more (DBad.bel h) hb) (hb.block _ (BlkAt.lt hc))
 | ok A => exact DOk.later h (below_more (DOk.bel h) hb) (fun k hk _ => hb.block k hk)
theorem DOk.form {Q w0 w : World} {o M : Nat} {V : JV} {x : VC} {av : Value} {A : List ByteArray} (h : DOk Q w0 w o M V x av A) : ∃ aa ac, av = .slice aa A.length ac := by
 rcases h.row.2 with ⟨rfl, h0⟩ | ⟨g, cap, cur, rfl, -⟩
 · exact ⟨none, 0, by rw [h0]⟩
 · exact ⟨_, _, rfl⟩
def TakeP (R : Option JV) (s : PS) (Q w0 w : World) (o M : Nat) (V : JV) (x : VC) (av : Value) (e : Ending) (w' : World) : Prop :=
 (∃ av', DSt Q w0 w' o M V x av' s) ∧ Sep w w' o av.ownBlock ∧ match R with
   | none => e = .returned (.tuple #[zV, .bool false])
   | some y => ∃ yv : VC, e = .returned (.tuple #[yv.val, .bool true]) ∧ ValAt Q y yv.val
set_option maxHeartbeats 4000000 in
theorem dTake_bad {Q w0 w : World} {o M : Nat} {V : JV} {x : VC} {av : Value} {er : Int} (h : DBad w0 w o er) (nm : ByteArray) (k : Int) :
   Calls Tryz.prog 76 #[.pointer (some ⟨o, 0, none⟩), .string nm, .int .u8 k] w (TakeP none (.bad er) Q w0 w o M V x av) := by
 obtain ⟨c0, c1, c2, c3, c4, c5, hc⟩ := h.blk
 obtain ⟨k0, k1, k2, k3, k4, k5, k6, kf⟩ := b7 hc
 have hlt := BlkAt.lt hc
 have heb : (er != 0) = true := by rw [bne_iff_ne]; exact h.ne
 have H := Lib.hid h
 clear h hc
 go_enter Tryz.func76, Tryz.ntmps76
 go_wp2_with fail
 exact bodyPost_ret (v := .tuple #[zV, .bool false]) (by simp [results, Tryz.results76, go_sem, zV]) rfl ⟨⟨av, DSt.keep (s := .bad er) (M := M) (V := V) (x := x) (av := av) H.out (bel_alloc (Below.refl _ _) _)⟩, Sep.of_below (bel_alloc (Below.refl _ _) _) _ _, rfl⟩
set_option maxHeartbeats 8000000 in
theorem dTake_ok {Q w0 w : World} {o M : Nat} {V : JV} {x : VC} {av : Value} {A : List ByteArray} (h : DOk Q w0 w o M V x av A) (nm : ByteArray) (k : Int) (hk : k ≠ 0) (hA : A.length ≤ 900) (hM : M ≤ w.heap.size) (hn : nm.size ≤ maxLen) (R : Option JV) (s : PS) (hq : Hid (takeQ V nm k (.ok A) = (R, s))) :
   Calls Tryz.prog 76 #[.pointer (some ⟨o, 0, none⟩), .string nm, .int .u8 k] w (TakeP R s Q w0 w o M V x av) := by
 obtain ⟨k0, k1, k2, k3, k4, k5, k6, kf⟩ := b7 h.blk
 have hlt := BlkAt.lt h.blk
 have hlo := h.lo
 have hlm := h.lm
 have H := Lib.hid h
 obtain ⟨R1, hR1⟩ : ∃ R1, getV V nm = R1 := ⟨_, rfl⟩
 have HG := Lib.hid (fun W (hb : Below w0.heap.size w0 W) => refGet_any V _ nm Q W h.val (fun p u hu => cell_keep hb (h.sub p u hu)) h.len R1 (Lib.hid hR1))
 have hR2 : getN V.names V.items nm = R1 := by rw [← hR1, getV, if_pos h.five]
 have hq' := hq.out
 rw [takeQ, hR2] at hq'
 have HQ := Lib.hid hq'
 have HN := Lib.hid hn
 have hkb : (k != 0) = true := by rw [bne_iff_ne]; exact hk
 obtain ⟨i0, hi, hz0, hz1, hz2⟩ := info_parts infoStr
 have HJ := Lib.hid hi
 have HY0 := Lib.hid hz0
 have HY1 := Lib.hid hz1
 have HY2 := Lib.hid hz2
 have HA := Lib.hid hA
 obtain ⟨aa, ac, rfl⟩ := h.form
 obtain ⟨an, han⟩ : ∃ n, A.length = n := ⟨_, rfl⟩
 have HAN := Lib.hid han
 rw [han] at k5 H hA HA ⊢
 have HAV := Lib.hid H.out.avlt
 have HB0 := Lib.hid H.out.bel
 clear han
 clear h hq hq' hR1 hR2 hn hk hi hz0 hz1 hz2 hA
 go_enter Tryz.func76, Tryz.ntmps76
 go_wp2_with fail
 refine (HG.out _ (below_more H.out.bel (bel_alloc (Below.refl _ _) _))).mono ?_
 rintro e w1 ⟨hb1, hp⟩
 have hb1' := below_more (bel_alloc (Below.refl w.heap.size w) _) hb1
 have H1 : Hid (DOk Q w0 w1 o M V x (.slice aa an ac) A) := DSt.keep (s := .ok A) H.out hb1'
 have HZ1 : Hid (BlkAt w1 w.heap.size 26 #[.int .u8 0, .int .i64 0, .string ⟨#[]⟩, .slice none 0 0, .slice none 0 0]) := BlkAt.keep (blkAt_new w _ _) hb1
 have hzl : w.heap.size < w1.heap.size := BlkAt.lt HZ1.out
 have HS1 : Hid (Sep w w1 o (Value.slice aa an ac).ownBlock) := Sep.of_below hb1' _ _
 clear k0 k1 k2 k3 k4 k5 k6 kf HG H hb1 hb1'
 obtain ⟨k0, k1, k2, k3, k4, k5, k6, kf⟩ := b7 H1.out.blk
 obtain ⟨z0, z1, z2, z3, z4, zf⟩ := b5 HZ1.out
 obtain ⟨zb, hzb⟩ : ∃ b, w.heap.size = b := ⟨_, rfl⟩
 have HZB := Lib.hid hzb
 rw [hzb] at HAV hM hlt hzl z0 z1 z2 z3 z4 zf HZ1 ⊢
 clear hzb
 cases R1 with
 | none =>
   subst hp
   obtain ⟨hR, hs⟩ : none = R ∧ PS.bad 6 = s := by have := HQ.out; simpa using this
   subst hR
   subst hs
   simp only [zV]
   obtain ⟨-, -, -, -, -, q5, q6, qf⟩ := b7 (H1.out.blk.alloc (.cells #[.int .u8 0, .int .i64 0, .string ⟨#[]⟩, .slice none 0 0, .slice none 0 0] 26))
   go_wp2_with (at_builtin; refine wpList_append_own_at _ rfl _ _ 23 rfl M 9 i0 (.string ⟨#[]⟩) 1 16 Tryz.underlying23 HJ.out HY0.out HY1.out HY2.out rfl (by decide) _ _ _ rfl (World.ownsRow.alloc (World.ownsRow.alloc H1.out.row _) _) ⟨w1.heap.size + 1, 0, none⟩ 1 1 [.string nm] rfl rfl ?k1 ?k2 ?k3 ?k4 ?k5 ?_)
   case k2 => rfl
   case k3 => have h1 := HAN.out; have h2 := HA.out; unfold maxLen; omega
   case k4 => have h1 := HAN.out; have h2 := HA.out; omega
   case k5 => omega
   intro v' w4 hown4 hgrow _ hblk
   obtain ⟨g4, p4, rfl, hg4, hg4'⟩ := World.ownsRow.form hown4 (by omega)
   have hne1 : some o ≠ (Value.slice aa an ac).ownBlock := fun e => by have := (HAV.out o e.symm).1; omega
   have hne2 : some zb ≠ (Value.slice aa an ac).ownBlock := fun e => by have := (HAV.out zb e.symm).2; omega
   have hne3 : some w1.heap.size ≠ (Value.slice aa an ac).ownBlock := fun e => by have := (HAV.out _ e.symm).2; omega
   have HO4 := Lib.hid (BlkAt.set (((H1.out.blk.alloc _).alloc _).grown hgrow hne1) 5 (.slice (some ⟨g4, 0, none⟩) (A.length + 1) p4))
   have HR4 : Hid (w4.ownsRow M 9 1 (.slice (some ⟨g4, 0, none⟩) (A.length + 1) p4) (A ++ [nm]).length ((A ++ [nm]).map Value.string)) := by rw [List.length_append, List.map_append]; exact hown4
   have HZ4 : Hid (BlkAt w4 zb 26 #[.int .u8 0, .int .i64 0, .string ⟨#[]⟩, .slice none 0 0, .slice none 0 0]) := ((HZ1.out.alloc _).alloc _).grown hgrow hne2
   have HB8 := Lib.hid (((blkAt_new w1 _ _).alloc _).grown hgrow hne3)
   have HS4 : Hid (Sep w w4 o (Value.slice aa an ac).ownBlock) := ((HS1.out.alloc _).alloc _).grown hgrow
   obtain ⟨-, -, -, -, -, o5, o6, of⟩ := b7 (((H1.out.blk.alloc _).alloc _).grown hgrow hne1)
   obtain ⟨y0, y1, y2, y3, y4, yf⟩ := b5 HZ4.out
   obtain ⟨x0, x1, x2, x3, x4, xf⟩ := b5 HB8.out
   have hoz : ¬ o = zb := by omega
   have hzo : ¬ zb = o := by omega
   have hox : ¬ o = w1.heap.size := by omega
   have hxo : ¬ w1.heap.size = o := by omega
   have hs4 : w1.heap.size < w4.heap.size := BlkAt.lt HB8.out
   have hgz : ¬ g4 = zb := by
     rcases hblk with h | h
     · have := (HAV.out g4 (by rw [← h]; rfl)).2
       omega
     · have h2 : some g4 = some (w1.heap.size + 2) := by simpa [Value.ownBlock] using h
       have := Option.some.inj h2
       omega
   clear hown4 hgrow hblk hne1 hne2 hne3 k0 k1 k2 k3 k4 k5 k6 kf z0 z1 z2 z3 z4 zf q5 q6 qf
   go_wp2_with fail
   have hzw : w.heap.size ≤ zb := by have := HZB.out; omega
   have hsep := (((HS4.out.set 5 (.slice (some ⟨g4, 0, none⟩) (A.length + 1) p4)).set 6 (.int .i64 6)).set5 hzw (.int .u8 0) (.int .i64 0) (.string ⟨#[]⟩) (.slice none 0 0) (.slice none 0 0))
   refine bodyPost_ret (v := .tuple #[zV, .bool false]) ?_ rfl ⟨⟨.slice none 0 0, ⟨hsep.below HB0.out hlo (fun k hk => by have := (HAV.out k hk).1; omega), hlo, by decide, _, _, _, _, _, _, far5 (BlkAt.set HO4.out 6 (.int .i64 6)) (by omega) _ _ _ _ _⟩⟩, hsep, rfl⟩
   simp [results, Tryz.results76, go_sem, zV, y0, y1, y2, y3, y4]
 | some y =>
   obtain ⟨⟨yk, yn, yt, ya, yl, yc, yb, ym, ye⟩, rfl, hyv⟩ := hp
   obtain ⟨hyk, hyk2⟩ : y.k = yk ∧ True := by
     obtain ⟨_, _, e1, -⟩ := valAt_iff.1 hyv
     simp only [VC.val, Value.agg.injEq, Array.mk.injEq, List.cons.injEq, Value.int.injEq] at e1
     exact ⟨e1.1.2.symm, trivial⟩
   have HYV := Lib.hid hyv
   have hcs : (y.k = k ∧ R = some y ∧ s = .ok (A ++ [nm])) ∨ (y.k ≠ k ∧ R = none ∧ s = .bad 10) := by
     have := HQ.out
     simp only at this
     by_cases e : y.k = k
     · rw [if_pos e] at this
       cases this
       exact Or.inl ⟨e, rfl, rfl⟩
     · rw [if_neg e] at this
       cases this
       exact Or.inr ⟨e, rfl, rfl⟩
   clear HQ hyv hyk2
   simp only [VC.val]
   obtain ⟨-, -, -, -, -, q5, q6, qf⟩ := b7 (H1.out.blk.alloc (.cells #[.int .u8 yk, .int .i64 yn, .string yt, .slice ya yl yc, .slice yb ym ye] 26))
   go_wp2_with (at_builtin; refine wpList_append_own_at _ rfl _ _ 23 rfl M 9 i0 (.string ⟨#[]⟩) 1 16 Tryz.underlying23 HJ.out HY0.out HY1.out HY2.out rfl (by decide) _ _ _ rfl (World.ownsRow.alloc (World.ownsRow.alloc H1.out.row _) _) ⟨w1.heap.size + 1, 0, none⟩ 1 1 [.string nm] rfl rfl ?e1 ?e2 ?e3 ?e4 ?e5 ?_)
   case e1 =>
     intro j u hj
     have hadd : (⟨w1.heap.size + 1, 0, none⟩ : Addr).add j = ⟨w1.heap.size + 1, j, none⟩ := by unfold Addr.add; split <;> simp_all
     rw [hadd, cell_al_eq _ _ _ _ _ (by rw [size_al])]
     simpa using hj
   case e2 =>
     intro u hu
     simp only [List.mem_cons, List.not_mem_nil, or_false] at hu
     rw [hu]
     rfl
   case e3 => have h1 := HAN.out; have h2 := HA.out; unfold maxLen; omega
   case e4 => have h1 := HAN.out; have h2 := HA.out; omega
   case e5 => first | omega | (rw [size_al, size_al]; omega)
   intro v' w4 hown4 hgrow _ hblk
   obtain ⟨g4, p4, rfl, hg4, hg4'⟩ := World.ownsRow.form hown4 (by omega)
   have hne1 : some o ≠ (Value.slice aa an ac).ownBlock := fun e => by have := (HAV.out o e.symm).1; omega
   have hne2 : some zb ≠ (Value.slice aa an ac).ownBlock := fun e => by have := (HAV.out zb e.symm).2; omega
   have hne3 : some w1.heap.size ≠ (Value.slice aa an ac).ownBlock := fun e => by have := (HAV.out _ e.symm).2; omega
   have HO4 := Lib.hid (BlkAt.set (((H1.out.blk.alloc _).alloc _).grown hgrow hne1) 5 (.slice (some ⟨g4, 0, none⟩) (A.length + 1) p4))
   have HR4 : Hid (w4.ownsRow M 9 1 (.slice (some ⟨g4, 0, none⟩) (A.length + 1) p4) (A ++ [nm]).length ((A ++ [nm]).map Value.string)) := by rw [List.length_append, List.map_append]; exact hown4
   have HZ4 : Hid (BlkAt w4 zb 26 #[.int .u8 0, .int .i64 0, .string ⟨#[]⟩, .slice none 0 0, .slice none 0 0]) := ((HZ1.out.alloc _).alloc _).grown hgrow hne2
   have HB8 := Lib.hid (((blkAt_new w1 _ _).alloc _).grown hgrow hne3)
   have HS4 : Hid (Sep w w4 o (Value.slice aa an ac).ownBlock) := ((HS1.out.alloc _).alloc _).grown hgrow
   obtain ⟨-, -, -, -, -, o5, o6, of⟩ := b7 (((H1.out.blk.alloc _).alloc _).grown hgrow hne1)
   obtain ⟨y0, y1, y2, y3, y4, yf⟩ := b5 HZ4.out
   obtain ⟨x0, x1, x2, x3, x4, xf⟩ := b5 HB8.out
   have hoz : ¬ o = zb := by omega
   have hzo : ¬ zb = o := by omega
   have hox : ¬ o = w1.heap.size := by omega
   have hxo : ¬ w1.heap.size = o := by omega
   have hs4 : w1.heap.size < w4.heap.size := BlkAt.lt HB8.out
   have hgz : ¬ g4 = zb := by
     rcases hblk with h | h
     · have := (HAV.out g4 (by rw [← h]; rfl)).2
       omega
     · have h2 : some g4 = some (w1.heap.size + 2) := by simpa [Value.ownBlock] using h
       have := Option.some.inj h2
       omega
   clear hown4 hgrow hblk hne1 hne2 hne3 k0 k1 k2 k3 k4 k5 k6 kf z0 z1 z2 z3 z4 zf q5 q6 qf
   rcases hcs with ⟨hk1, rfl, rfl⟩ | ⟨hk1, rfl, rfl⟩
   · have hk2 : (yk != k) = false := by rw [← hyk, hk1]; simp
     clear hk1 hyk
     go_wp2_with fail
     have hzw : w.heap.size ≤ zb := by have := HZB.out; omega
     have hsep := ((HS4.out.set 5 (.slice (some ⟨g4, 0, none⟩) (A.length + 1) p4)).set5 hzw (.int .u8 yk) (.int .i64 yn) (.string yt) (.slice ya yl yc) (.slice yb ym ye))
     have hrow := row_far5 (row_far HR4.out (b := o) (by intro e; have e2 : o = g4 := Option.some.inj e; omega) 5 (.slice (some ⟨g4, 0, none⟩) (A.length + 1) p4)) (b := zb) (by intro e; have e2 : zb = g4 := Option.some.inj e; omega) (.int .u8 yk) (.int .i64 yn) (.string yt) (.slice ya yl yc) (.slice yb ym ye)
     refine bodyPost_ret (v := .tuple #[.agg #[.int .u8 yk, .int .i64 yn, .string yt, .slice ya yl yc, .slice yb ym ye], .bool true]) ?_ rfl ⟨⟨_, ⟨hsep.below HB0.out hlo (fun k hk => by have := (HAV.out k hk).1; omega), H1.out.sub, H1.out.val, H1.out.five, H1.out.len, hlo, hlm, far5 HO4.out (by omega) _ _ _ _ _, hrow, ?_, ?_⟩⟩, hsep, ⟨⟨yk, yn, yt, ya, yl, yc, yb, ym, ye⟩, rfl, HYV.out⟩⟩
     · simp [results, Tryz.results76, go_sem, y0, y1, y2, y3, y4]
     · have h1 := HAN.out
       have h2 := HA.out
       rw [List.length_append, List.length_singleton]
       omega
     · intro u hu
       rcases List.mem_append.1 hu with hu | hu
       · exact H1.out.size u hu
       · rw [List.mem_singleton.1 hu]
         exact HN.out
   · have hk2 : (yk != k) = true := by rw [← hyk]; simpa using hk1
     clear hk1 hyk
     go_wp2_with fail
     have hzw : w.heap.size ≤ zb := by have := HZB.out; omega
     have hsep := (((HS4.out.set 5 (.slice (some ⟨g4, 0, none⟩) (A.length + 1) p4)).set 6 (.int .i64 10)).set5 hzw (.int .u8 0) (.int .i64 0) (.string ⟨#[]⟩) (.slice none 0 0) (.slice none 0 0))
     refine bodyPost_ret (v := .tuple #[zV, .bool false]) ?_ rfl ⟨⟨.slice none 0 0, ⟨hsep.below HB0.out hlo (fun k hk => by have := (HAV.out k hk).1; omega), hlo, by decide, _, _, _, _, _, _, far5 (BlkAt.set HO4.out 6 (.int .i64 10)) (by omega) _ _ _ _ _⟩⟩, hsep, rfl⟩
     simp [results, Tryz.results76, go_sem, zV, y0, y1, y2, y3, y4]
end

section
set_option maxRecDepth 100000
open Go.RowKit
theorem dTake_any {Q w0 w : World} {o M : Nat} {V : JV} {x : VC} {av : Value} {s : PS} (h : DSt Q w0 w o M V x av s) (nm : ByteArray) (k : Int) (hk : k ≠ 0) (hA : ∀ A, s = .ok A → A.length ≤ 900) (hM : M ≤ w.heap.size) (hn : nm.size ≤ maxLen) (R : Option JV) (s' : PS) (hq : Hid (takeQ V nm k s = (R, s'))) :
   Calls Tryz.prog 76 #[.pointer (some ⟨o, 0, none⟩), .string nm, .int .u8 k] w (TakeP R s' Q w0 w o M V x av) := by
 cases s with
 | bad e =>
   have hq' := hq.out
   rw [takeQ] at hq'
   cases hq'
   exact dTake_bad h nm k
 | ok A => exact dTake_ok h nm k hk (hA A rfl) hM hn R s' hq
theorem valAt_z (w : World) : ValAt w zJ zV := by
 unfold zJ zV
 rw [ValAt]
 exact ⟨.slice none 0 0, .slice none 0 0, rfl, by decide, by decide, by decide, by decide, by decide, strsAt_nil _, by simp, Or.inl ⟨rfl, none, 0, rfl⟩⟩
def zC : VC := ⟨0, 0, ⟨#[]⟩, none, 0, 0, none, 0, 0⟩
def StepP (s : PS) (Q w0 w : World) (o M : Nat) (V : JV) (x : VC) (av : Value) (w' : World) : Prop := (∃ av', DSt Q w0 w' o M V x av' s) ∧ Sep w w' o av.ownBlock
theorem StepP.keep {s : PS} {Q w0 w : World} {o M : Nat} {V : JV} {x : VC} {av : Value} {w' w2 : World} (h : StepP s Q w0 w o M V x av w') (hb : Below w'.heap.size w' w2) : StepP s Q w0 w o M V x av w2 := by
 obtain ⟨⟨av', h1⟩, h2⟩ := h
 exact ⟨⟨av', h1.keep hb⟩, h2.os ▸ hb.os ▸ rfl, h2.tape ▸ hb.tape ▸ rfl, h2.output ▸ hb.output ▸ rfl, Nat.le_trans h2.size hb.size, fun k hk h3 h4 => (hb.block k (Nat.lt_of_lt_of_le hk h2.size)).trans (h2.block k hk h3 h4)⟩
theorem StepP.fail {A : List ByteArray} {Q w0 w : World} {o M : Nat} {V : JV} {x : VC} {av : Value} {w' w2 : World} (h : StepP (.ok A) Q w0 w o M V x av w') (hb : Below w'.heap.size w' w2) (hav : ∀ k, av.ownBlock = some k → w0.heap.size ≤ k) (h0 : Below w0.heap.size w0 w) (e : Int) (he : e ≠ 0) : StepP (.bad e) Q w0 w o M V x av (w2.setCell ⟨o, 6, none⟩ (.int .i64 e)) := by
 obtain ⟨⟨av', h1⟩, h2⟩ := h.keep hb
 have hs := h2.set 6 (.int .i64 e)
 have h1' : DOk Q w0 w2 o M V x av' A := h1
 exact ⟨⟨av', ⟨hs.below h0 h1'.lo hav, h1'.lo, he, _, _, _, _, _, _, BlkAt.set h1'.blk 6 (.int .i64 e)⟩⟩, hs⟩
theorem blk_set5 {w : World} {b : Nat} {T : TypeId} {a0 a1 a2 a3 a4 : Value} (h : BlkAt w b T #[a0, a1, a2, a3, a4]) (v0 v1 v2 v3 v4 : Value) : BlkAt (((((w.setCell ⟨b, 0, none⟩ v0).setCell ⟨b, 1, none⟩ v1).setCell ⟨b, 2, none⟩ v2).setCell ⟨b, 3, none⟩ v3).setCell ⟨b, 4, none⟩ v4) b T #[v0, v1, v2, v3, v4] :=
 ((((BlkAt.set h 0 v0).set 1 v1).set 2 v2).set 3 v3).set 4 v4
theorem StepP.set5 {s : PS} {Q w0 w : World} {o M : Nat} {V : JV} {x : VC} {av : Value} {w1 : World} (h : StepP s Q w0 w o M V x av w1) {zb : Nat} {cs : Array Value} (hz : BlkAt w1 zb 26 cs) (hzw : w.heap.size ≤ zb) (hzo : zb ≠ o) (hav : ∀ k, av.ownBlock = some k → w0.heap.size ≤ k) (h0 : Below w0.heap.size w0 w) (v0 v1 v2 v3 v4 : Value) : StepP s Q w0 w o M V x av (((((w1.setCell ⟨zb, 0, none⟩ v0).setCell ⟨zb, 1, none⟩ v1).setCell ⟨zb, 2, none⟩ v2).setCell ⟨zb, 3, none⟩ v3).setCell ⟨zb, 4, none⟩ v4) := by
 obtain ⟨⟨av', h1⟩, h2⟩ := h
 have hs := h2.set5 hzw v0 v1 v2 v3 v4
 refine ⟨⟨av', ?_⟩, hs⟩
 cases s with
 | bad e =>
   have h1' : DBad w0 w1 o e := h1
   obtain ⟨c0, c1, c2, c3, c4, c5, hc⟩ := h1'.blk
   exact ⟨hs.below h0 h1'.lo hav, h1'.lo, h1'.ne, c0, c1, c2, c3, c4, c5, far5 hc hzo _ _ _ _ _⟩
 | ok A =>
   have h1' : DOk Q w0 w1 o M V x av' A := h1
   refine ⟨hs.below h0 h1'.lo hav, h1'.sub, h1'.val, h1'.five, h1'.len, h1'.lo, h1'.lm, far5 h1'.blk hzo _ _ _ _ _, row_far5 h1'.row (fun e => ?_) _ _ _ _ _, h1'.short, h1'.size⟩
   rcases h1'.row.2 with ⟨rfl, -⟩ | ⟨g, cap, cur, rfl, -, hg, -⟩
   · simp [Value.ownBlock] at e
   · have e2 : zb = g := Option.some.inj e
     subst e2
     unfold BlkAt at hz
     rw [hg] at hz
     simp at hz
theorem DSt.bel {Q w0 w : World} {o M : Nat} {V : JV} {x : VC} {av : Value} {s : PS} (h : DSt Q w0 w o M V x av s) : Below w0.heap.size w0 w := by
 cases s with
 | bad e => exact DBad.bel h
 | ok A => exact DOk.bel h
theorem dst_av {Q w0 w : World} {o M : Nat} {V : JV} {x : VC} {s : PS} (h : ∃ av, DSt Q w0 w o M V x av s) : ∃ av, DSt Q w0 w o M V x av s ∧ ∀ k, av.ownBlock = some k → M ≤ k ∧ k < w.heap.size := by
 obtain ⟨av, h⟩ := h
 cases s with
 | bad e => exact ⟨.slice none 0 0, h, fun k hk => by simp [Value.ownBlock] at hk⟩
 | ok A => exact ⟨av, h, fun k hk => DOk.avlt h k hk⟩
theorem DSt.set_low {Q w0 w : World} {o M : Nat} {V : JV} {x : VC} {av : Value} {s : PS} (h : DSt Q w0 w o M V x av s) {b : Nat} (h1 : w0.heap.size ≤ b) (h2 : b ≠ o) (h3 : b < M) (i : Nat) (v : Value) : DSt Q w0 (w.setCell ⟨b, i, none⟩ v) o M V x av s := by
 cases s with
 | bad e =>
   have h' : DBad w0 w o e := h
   exact h'.later (bel_set h'.bel (p := ⟨b, i, none⟩) h1 v) (Below.heap_setCell _ _ _ _ (fun e => h2 e.symm))
 | ok A =>
   have h' : DOk Q w0 w o M V x av A := h
   refine h'.later (bel_set h'.bel (p := ⟨b, i, none⟩) h1 v) fun k _ hk => Below.heap_setCell _ _ _ _ (fun e => ?_)
   have e2 : k = b := e
   rcases hk with hk | hk
   · exact h2 (e2.symm.trans hk)
   · have := (h'.avlt k hk).1
     omega
theorem takeQ_some {V : JV} {nm : ByteArray} {k : Int} {s s' : PS} {y : JV} (h : takeQ V nm k s = (some y, s')) : ∃ A, s = .ok A ∧ s' = .ok (A ++ [nm]) := by
 cases s with
 | bad e => rw [takeQ] at h; cases h
 | ok A =>
   rw [takeQ] at h
   split at h
   · cases h
   · split at h
     · cases h; exact ⟨A, rfl, rfl⟩
     · cases h
set_option maxHeartbeats 4000000 in
theorem dText_any {Q w0 w : World} {o M : Nat} {V : JV} {x : VC} {av : Value} {s : PS} (h : DSt Q w0 w o M V x av s) (nm : ByteArray) (hA : ∀ A, s = .ok A → A.length ≤ 900) (hM : M ≤ w.heap.size) (hn : nm.size ≤ maxLen) (t : ByteArray) (s' : PS) (hq : Hid (textQ V nm s = (t, s'))) :
   Calls Tryz.prog 77 #[.pointer (some ⟨o, 0, none⟩), .string nm] w fun e w' => e = .returned (.string t) ∧ StepP s' Q w0 w o M V x av w' := by
 obtain ⟨R, s1, hR⟩ : ∃ R s1, takeQ V nm 3 s = (R, s1) := ⟨_, _, rfl⟩
 have HT := Lib.hid (dTake_any h nm 3 (by decide) hA hM hn R s1 (Lib.hid hR))
 have hq' := hq.out
 rw [textQ, hR] at hq'
 have HQ := Lib.hid hq'
 clear h hA hM hn hq hq' hR
 go_enter Tryz.func77, Tryz.ntmps77
 go_wp2_with fail
 refine HT.out.mono ?_
 rintro e w1 ⟨h1, h2, h3⟩
 have HS : Hid (StepP s1 Q w0 w o M V x av w1) := ⟨h1, h2⟩
 clear h1 h2
 cases R with
 | none =>
   subst h3
   have := HQ.out
   cases this
   simp only [zV]
   go_wp2_with fail
   go_ret
   exact ⟨rfl, HS.out.keep (bel_alloc (Below.refl _ _) _)⟩
 | some y =>
   obtain ⟨⟨yk, yn, yt, ya, yl, yc, yb, ym, ye⟩, rfl, hyv⟩ := h3
   have hyt : y.t = yt := by
     obtain ⟨_, _, e1, -⟩ := valAt_iff.1 hyv
     simp only [VC.val, Value.agg.injEq, Array.mk.injEq, List.cons.injEq, Value.string.injEq] at e1
     exact e1.2.2.1.symm
   have := HQ.out
   cases this
   subst hyt
   clear hyv HQ
   simp only [VC.val]
   go_wp2_with fail
   go_ret
   exact ⟨rfl, HS.out.keep (bel_alloc (Below.refl _ _) _)⟩
set_option maxHeartbeats 4000000 in
theorem dList_any {Q w0 w : World} {o M : Nat} {V : JV} {x : VC} {av : Value} {s : PS} (h : DSt Q w0 w o M V x av s) (nm : ByteArray) (most : Nat) (hA : ∀ A, s = .ok A → A.length ≤ 900) (hM : M ≤ w.heap.size) (hn : nm.size ≤ maxLen) (hav : ∀ k, av.ownBlock = some k → w0.heap.size ≤ k ∧ k < w.heap.size) (l : List JV) (s' : PS) (hq : Hid (listQ V nm most s = (l, s'))) :
   Calls Tryz.prog 38 #[.pointer (some ⟨o, 0, none⟩), .string nm, .int .i64 most] w fun e w' => (∃ sv, e = .returned sv ∧ ItemsAt Q sv l) ∧ StepP s' Q w0 w o M V x av w' := by
 obtain ⟨R, s1, hR⟩ : ∃ R s1, takeQ V nm 4 s = (R, s1) := ⟨_, _, rfl⟩
 have HT := Lib.hid (dTake_any h nm 4 (by decide) hA hM hn R s1 (Lib.hid hR))
 have H0 := Lib.hid h.bel
 have HTS := Lib.hid hR
 have HAV := Lib.hid hav
 have hq' := hq.out
 rw [listQ, hR] at hq'
 have HQ := Lib.hid hq'
 clear h hA hM hn hq hq' hR hav
 go_enter Tryz.func38, Tryz.ntmps38
 go_wp2_with fail
 refine HT.out.mono ?_
 rintro e w1 ⟨h1, h2, h3⟩
 have HS : Hid (StepP s1 Q w0 w o M V x av w1) := ⟨h1, h2⟩
 clear h1 h2
 cases R with
 | none =>
   subst h3
   have := HQ.out
   cases this
   simp only [zV]
   go_wp2_with fail
   go_ret
   exact ⟨⟨_, rfl, itemsAt_nil _⟩, HS.out.keep (bel_alloc (Below.refl _ _) _)⟩
 | some y =>
   obtain ⟨⟨yk, yn, yt, ya, yl, yc, yb, ym, ye⟩, rfl, hyv⟩ := h3
   obtain ⟨A, -, hs1⟩ := takeQ_some HTS.out
   subst hs1
   obtain ⟨hyl, hit⟩ : y.items.length = ym ∧ ItemsAt Q (.slice yb ym ye) y.items := by
     obtain ⟨_, _, e1, -, -, -, -, -, -, hit⟩ := valAt_iff.1 hyv
     simp only [VC.val, Value.agg.injEq, Array.mk.injEq, List.cons.injEq] at e1
     rw [← e1.2.2.2.2.1] at hit
     obtain ⟨_, _, e2, -⟩ := hit.parts
     cases e2
     exact ⟨rfl, hit⟩
   have hq1 := HQ.out
   simp only [hyl] at hq1
   have HIT := Lib.hid hit
   have hol : ∃ c0 c1 c2 c3 c4 c5, Hid (BlkAt w1 o 81 #[c0, c1, c2, c3, c4, c5, .int .i64 0]) := by
     obtain ⟨av', h1⟩ := HS.out.1
     exact ⟨_, _, _, _, _, _, DOk.blk h1⟩
   obtain ⟨c0, c1, c2, c3, c4, c5, HO⟩ := hol
   have hlt := BlkAt.lt HO.out
   obtain ⟨-, -, -, -, -, -, o6, of⟩ := b7 (HO.out.alloc (.cells #[.int .u8 yk, .int .i64 yn, .string yt, .slice ya yl yc, .slice yb ym ye] 26))
   have hne : ¬ o = w1.heap.size := by omega
   clear hyv hit hyl HTS HQ
   simp only [VC.val]
   by_cases hm : most < ym
   · have hmi : (most : Int) < (ym : Int) := by omega
     rw [if_pos hm] at hq1
     cases hq1
     have hmg : (decide ((most : Int) < (ym : Int))) = true := decide_eq_true hmi
     go_wp2_with fail
     go_ret
     exact ⟨⟨_, rfl, itemsAt_nil _⟩, (HS.out.fail (Below.refl _ _) (fun k hk => (HAV.out k hk).1) H0.out 5 (by decide)).keep (bel_alloc (Below.refl _ _) _)⟩
   · have hmi : ¬ (most : Int) < (ym : Int) := by omega
     rw [if_neg hm] at hq1
     cases hq1
     have hmg : (decide ((most : Int) < (ym : Int))) = false := decide_eq_false hmi
     go_wp2_with fail
     go_ret
     exact ⟨⟨_, rfl, HIT.out⟩, HS.out.keep (bel_alloc (Below.refl _ _) _)⟩
set_option maxHeartbeats 4000000 in
theorem dObject_any {Q w0 w : World} {o M : Nat} {V : JV} {x : VC} {av : Value} {s : PS} (h : DSt Q w0 w o M V x av s) (nm : ByteArray) (most : Nat) (hA : ∀ A, s = .ok A → A.length ≤ 900) (hM : M ≤ w.heap.size) (hn : nm.size ≤ maxLen) (hav : ∀ k, av.ownBlock = some k → w0.heap.size ≤ k ∧ k < w.heap.size) (l : JV) (s' : PS) (hq : Hid (objQ V nm most s = (l, s'))) :
   Calls Tryz.prog 41 #[.pointer (some ⟨o, 0, none⟩), .string nm, .int .i64 most] w fun e w' => (∃ sv : VC, e = .returned sv.val ∧ ValAt Q l sv.val) ∧ StepP s' Q w0 w o M V x av w' := by
 obtain ⟨R, s1, hR⟩ : ∃ R s1, takeQ V nm 5 s = (R, s1) := ⟨_, _, rfl⟩
 have H0 := Lib.hid h.bel
 have HTS := Lib.hid hR
 have HAV := Lib.hid hav
 have hlo : w0.heap.size ≤ o ∧ o < w.heap.size := by
   cases s with
   | bad e => obtain ⟨_, _, _, _, _, _, hc⟩ := DBad.blk h; exact ⟨DBad.lo h, BlkAt.lt hc⟩
   | ok A => exact ⟨DOk.lo h, BlkAt.lt (DOk.blk h)⟩
 have hq' := hq.out
 rw [objQ, hR] at hq'
 have HQ := Lib.hid hq'
 have HK := Lib.hid (fun W (hb : Below w.heap.size w W) => dTake_any (h.keep hb) nm 5 (by decide) hA (Nat.le_trans hM hb.size) hn R s1 (Lib.hid hR))
 clear h hA hM hn hq hq' hR hav
 go_enter Tryz.func41, Tryz.ntmps41
 go_wp2_with fail
 refine (HK.out _ (bel_alloc (Below.refl _ _) _)).mono ?_
 rintro e w1 ⟨h1, h2, h3⟩
 have HZ1 : Hid (BlkAt w1 w.heap.size 26 #[.int .u8 0, .int .i64 0, .string ⟨#[]⟩, .slice none 0 0, .slice none 0 0]) := by
   refine (h2.block w.heap.size (by rw [size_al]; omega) (by omega) (fun e => ?_)).trans (blkAt_new w _ _)
   have := (HAV.out _ e.symm).2
   omega
 have hzl : w.heap.size < w1.heap.size := BlkAt.lt HZ1.out
 have HS : Hid (StepP s1 Q w0 w o M V x av w1) := ⟨h1, h2.more (bel_alloc (Below.refl _ _) _)⟩
 have hol : ∃ c0 c1 c2 c3 c4 c5 c6, Hid (BlkAt w1 o 81 #[c0, c1, c2, c3, c4, c5, c6]) := by
   obtain ⟨av', h1⟩ := h1
   cases s1 with
   | bad e => obtain ⟨_, _, _, _, _, _, hc⟩ := DBad.blk h1; exact ⟨_, _, _, _, _, _, _, hc⟩
   | ok A => exact ⟨_, _, _, _, _, _, _, DOk.blk h1⟩
 obtain ⟨c0, c1, c2, c3, c4, c5, c6, HO⟩ := hol
 clear h1 h2 HK
 have hlt := BlkAt.lt HO.out
 have hzo : ¬ w.heap.size = o := by omega
 have hoz : ¬ o = w.heap.size := by omega
 obtain ⟨zb, hzb⟩ : ∃ b, w.heap.size = b := ⟨_, rfl⟩
 have HZB := Lib.hid hzb
 rw [hzb] at hlo hzl hzo hoz HZ1 ⊢
 clear hzb
 obtain ⟨z0, z1, z2, z3, z4, zf⟩ := b5 HZ1.out
 obtain ⟨-, -, -, -, -, -, o6, of⟩ := b7 HO.out
 have hzn : ¬ zb = w1.heap.size := by omega
 have hnz : ¬ w1.heap.size = zb := by omega
 have hon : ¬ o = w1.heap.size := by omega
 have hno : ¬ w1.heap.size = o := by omega
 have hzw : w.heap.size ≤ zb := by have := HZB.out; omega
 cases R with
 | none =>
   subst h3
   have := HQ.out
   cases this
   simp only [zV]
   go_wp2_with fail
   refine bodyPost_ret (v := zC.val) ?_ rfl ⟨⟨zC, rfl, valAt_z _⟩, (HS.out.set5 HZ1.out hzw hzo (fun k hk => (HAV.out k hk).1) H0.out _ _ _ _ _).keep (bel_alloc (Below.refl _ _) _)⟩
   obtain ⟨q0, q1, q2, q3, q4, -⟩ := b5 ((blk_set5 HZ1.out (.int .u8 0) (.int .i64 0) (.string ⟨#[]⟩) (.slice none 0 0) (.slice none 0 0)).alloc (.cells #[.int .u8 0, .int .i64 0, .string ⟨#[]⟩, .slice none 0 0, .slice none 0 0] 26))
   simp [results, Tryz.results41, go_sem, zC, VC.val, q0, q1, q2, q3, q4]
 | some y =>
   obtain ⟨⟨yk, yn, yt, ya, yl, yc, yb, ym, ye⟩, rfl, hyv⟩ := h3
   obtain ⟨A, -, hs1⟩ := takeQ_some HTS.out
   subst hs1
   obtain ⟨hyl, hit⟩ : y.items.length = ym ∧ ItemsAt Q (.slice yb ym ye) y.items := by
     obtain ⟨_, _, e1, -, -, -, -, -, -, hit⟩ := valAt_iff.1 hyv
     simp only [VC.val, Value.agg.injEq, Array.mk.injEq, List.cons.injEq] at e1
     rw [← e1.2.2.2.2.1] at hit
     obtain ⟨_, _, e2, -⟩ := hit.parts
     cases e2
     exact ⟨rfl, hit⟩
   have hq1 := HQ.out
   simp only [hyl] at hq1
   have HYV := Lib.hid hyv
   clear hyv hit hyl HTS HQ
   simp only [VC.val]
   by_cases hm : most < ym
   · have hmi : (most : Int) < (ym : Int) := by omega
     rw [if_pos hm] at hq1
     cases hq1
     go_wp2_with fail
     refine bodyPost_ret (v := zC.val) ?_ rfl ⟨⟨zC, rfl, valAt_z _⟩, ((HS.out.fail (Below.refl _ _) (fun k hk => (HAV.out k hk).1) H0.out 5 (by decide)).set5 (HZ1.out.set_far hoz _ _) hzw hzo (fun k hk => (HAV.out k hk).1) H0.out _ _ _ _ _).keep (bel_alloc (Below.refl _ _) _)⟩
     obtain ⟨q0, q1, q2, q3, q4, -⟩ := b5 ((blk_set5 (HZ1.out.set_far hoz 6 (.int .i64 5)) (.int .u8 0) (.int .i64 0) (.string ⟨#[]⟩) (.slice none 0 0) (.slice none 0 0)).alloc (.cells #[.int .u8 yk, .int .i64 yn, .string yt, .slice ya yl yc, .slice yb ym ye] 26))
     simp [results, Tryz.results41, go_sem, zC, VC.val, q0, q1, q2, q3, q4]
   · have hmi : ¬ (most : Int) < (ym : Int) := by omega
     rw [if_neg hm] at hq1
     cases hq1
     go_wp2_with fail
     refine bodyPost_ret (v := VC.val ⟨yk, yn, yt, ya, yl, yc, yb, ym, ye⟩) ?_ rfl ⟨⟨_, rfl, HYV.out⟩, (HS.out.set5 HZ1.out hzw hzo (fun k hk => (HAV.out k hk).1) H0.out _ _ _ _ _).keep (bel_alloc (Below.refl _ _) _)⟩
     obtain ⟨q0, q1, q2, q3, q4, -⟩ := b5 ((blk_set5 HZ1.out (.int .u8 yk) (.int .i64 yn) (.string yt) (.slice ya yl yc) (.slice yb ym ye)).alloc (.cells #[.int .u8 yk, .int .i64 yn, .string yt, .slice ya yl yc, .slice yb ym ye] 26))
     simp [results, Tryz.results41, go_sem, VC.val, q0, q1, q2, q3, q4]
end

section
set_option maxRecDepth 100000
open Go.RowKit
set_option maxHeartbeats 4000000 in
theorem dFail_any {Q w0 w : World} {o M : Nat} {V : JV} {x : VC} {av : Value} {s : PS} (h : DSt Q w0 w o M V x av s) (e : Int) (hav : ∀ k, av.ownBlock = some k → w0.heap.size ≤ k) :
   Calls Tryz.prog 40 #[.pointer (some ⟨o, 0, none⟩), .int .i64 e] w fun e' w' => e' = .returned (.tuple #[]) ∧ StepP (failQ e s) Q w0 w o M V x av w' ∧ DSt Q w0 w' o M V x av (failQ e s) := by
 have HH := Lib.hid h
 have H0 := Lib.hid h.bel
 have HAV := Lib.hid hav
 cases s with
 | bad er =>
   obtain ⟨c0, c1, c2, c3, c4, c5, hc⟩ := DBad.blk h
   obtain ⟨k0, k1, k2, k3, k4, k5, k6, kf⟩ := b7 hc
   have heb : (er == 0) = false := beq_eq_false_iff_ne.2 (DBad.ne h)
   clear h hav
   go_enter Tryz.func40, Tryz.ntmps40
   go_wp2_with fail
   refine bodyPost_end (v := .tuple #[]) (by simp [results, Tryz.results40, go_sem]) rfl ?_
   exact ⟨rfl, ⟨⟨av, HH.out⟩, Sep.of_below (Below.refl _ _) _ _⟩, HH.out⟩
 | ok A =>
   obtain ⟨k0, k1, k2, k3, k4, k5, k6, kf⟩ := b7 (DOk.blk h)
   clear h hav
   have HO : Hid (DOk Q w0 w o M V x av A) := HH.out
   go_enter Tryz.func40, Tryz.ntmps40
   go_wp2_with fail
   refine bodyPost_end (v := .tuple #[]) (by simp [results, Tryz.results40, go_sem]) rfl ?_
   have h1 := HO.out.lo
   have h2 := HO.out.lm
   have hs : Sep w (w.setCell ⟨o, 6, none⟩ (.int .i64 e)) o av.ownBlock := (Sep.of_below (Below.refl _ _) _ _).set 6 _
   have hb := hs.below H0.out h1 HAV.out
   have hd : DSt Q w0 (w.setCell ⟨o, 6, none⟩ (.int .i64 e)) o M V x av (failQ e (.ok A)) := by
     by_cases he : e = 0
     · rw [failQ, if_pos he]
       subst he
       exact ⟨hb, HO.out.sub, HO.out.val, HO.out.five, HO.out.len, h1, h2, BlkAt.set HO.out.blk 6 _, row_far HO.out.row (fun e => by have := (HO.out.avlt o e.symm).1; omega) _ _, HO.out.short, HO.out.size⟩
     · rw [failQ, if_neg he]
       exact ⟨hb, h1, he, _, _, _, _, _, _, BlkAt.set HO.out.blk 6 _⟩
   exact ⟨rfl, ⟨⟨av, hd⟩, hs⟩, hd⟩
theorem askedAll_at {V : JV} {A : List ByteArray} {i : Nat} {s : ByteArray} (hs : V.names[i]? = some s) (h : (A.any fun a => a.data.toList == s.data.toList) = false) : allAsked V A = false := by
 unfold allAsked
 rw [List.all_eq_false]
 exact ⟨s, List.mem_of_getElem? hs, by rw [h]; decide⟩
theorem any_more {A : List ByteArray} {k : Nat} {a s : ByteArray} (ha : A[k]? = some a) : ((A.take (k + 1)).any fun a => a.data.toList == s.data.toList) = (((A.take k).any fun a => a.data.toList == s.data.toList) || (a.data.toList == s.data.toList)) := by
 rw [List.take_add_one, ha]
 simp [List.any_append]
theorem asked_cells {w : World} {M : Nat} {aa : Option Addr} {n ac : Nat} {A : List ByteArray} (h : w.ownsRow M 9 1 (.slice aa n ac) A.length (A.map Value.string)) (hs : ∀ s ∈ A, s.size ≤ maxLen) (hl : A.length ≤ 1000) : n = A.length ∧ ∀ i s, A[i]? = some s → ∃ b o, aa = some ⟨b, o, none⟩ ∧ w.cell? ⟨b, o + i, none⟩ = some (.string s) := by
 have h1 := strs_own h (Nat.le_refl _) hs (by omega)
 have h2 : StrsAt w (.slice aa n ac) A := h1.imp fun p u hu => ((hidden_cell _ w p u).1 hu).2.2
 obtain ⟨a, c, e, -, -, hc⟩ := h2.parts
 cases e
 exact ⟨rfl, hc⟩
set_option maxHeartbeats 8000000 in
theorem dDone_any {Q w0 w : World} {o M : Nat} {V : JV} {x : VC} {av : Value} {s : PS} (h : DSt Q w0 w o M V x av s) :
   Calls Tryz.prog 42 #[.pointer (some ⟨o, 0, none⟩)] w fun e' w' => e' = .returned (.int .i64 (doneQ V s)) ∧ Below w.heap.size w w' := by
 cases s with
 | bad er =>
   obtain ⟨c0, c1, c2, c3, c4, c5, hc⟩ := DBad.blk h
   obtain ⟨k0, k1, k2, k3, k4, k5, k6, kf⟩ := b7 hc
   have heb : (er != 0) = true := by rw [bne_iff_ne]; exact DBad.ne h
   clear h
   go_enter Tryz.func42, Tryz.ntmps42
   go_wp2_with fail
   go_ret
   exact ⟨rfl, Below.refl _ _⟩
 | ok A =>
   have h' : DOk Q w0 w o M V x av A := h
   obtain ⟨aa, ac, rfl⟩ := h'.form
   obtain ⟨k0, k1, k2, k3, k4, k5, k6, kf⟩ := b7 h'.blk
   obtain ⟨-, hac⟩ := asked_cells h'.row h'.size h'.short
   obtain ⟨vn, vi, hxe, -, -, -, -, -, hns, -⟩ := valAt_iff.1 h'.val
   simp only [VC.val, Value.agg.injEq, Array.mk.injEq, List.cons.injEq] at hxe
   rw [← hxe.2.2.2.1] at hns
   obtain ⟨xa, xcap, hxs, hxl, -, hnc⟩ := hns.parts
   simp only [Value.slice.injEq] at hxs
   obtain ⟨e1, e2, e3⟩ := hxs
   rw [e2] at k3
   have HNC : Hid (∀ i s, V.names[i]? = some s → ∃ b o, x.a = some ⟨b, o, none⟩ ∧ w.cell? ⟨b, o + i, none⟩ = some (.string s)) := fun i s hs => by
     obtain ⟨b, o, e4, hc⟩ := hnc i s hs
     exact ⟨b, o, by rw [e1, e4], cell_keep h'.bel (h'.sub _ _ hc)⟩
   have HAC := Lib.hid hac
   obtain ⟨nl, hnl⟩ : ∃ n, V.names.length = n := ⟨_, rfl⟩
   obtain ⟨al, hal⟩ : ∃ n, A.length = n := ⟨_, rfl⟩
   have hal2 : al ≤ 1000 := by rw [← hal]; exact h'.short
   rw [hnl] at k3 hxl
   rw [hal] at k5
   have HB := Lib.hid h'.blk
   have hol := BlkAt.lt h'.blk
   have HNL := Lib.hid hnl
   have HAL := Lib.hid hal
   obtain ⟨res, hres⟩ : ∃ r, doneQ V (.ok A) = r := ⟨_, rfl⟩
   rw [hres]
   have HRES := Lib.hid hres
   clear h h' hac hns hnc e1 e2 e3 hnl hal hres hxe
   go_enter Tryz.func42, Tryz.ntmps42
   go_wp2_with fail
   go_loopw [3] (fun i wr => ∃ k : Nat, k ≤ nl ∧ i = .int .i64 k ∧ Hid (∀ j s, j < k → V.names[j]? = some s → (A.any fun a => a.data.toList == s.data.toList) = true) ∧ Below w.heap.size w wr) (fun i _ => nl - (intOf i).toNat)
   case atStart => exact ⟨0, by omega, rfl, fun j s hj => by omega, Below.refl _ _⟩
   case round =>
     obtain ⟨i, hi, rfl, HF, hbr⟩ := hrel
     have k3w := k3
     have k5w := k5
     have k3 := cell_keep hbr k3w
     have k5 := cell_keep hbr k5w
     have HBR := Lib.hid hbr
     clear hbr
     by_cases hlt : i < nl
     · obtain ⟨s, hs⟩ : ∃ s, V.names[i]? = some s := ⟨_, List.getElem?_eq_getElem (by rw [HNL.out]; exact hlt)⟩
       obtain ⟨nb, no, hxa, cn⟩ := HNC.out i s hs
       have i0 : (0 : Int) ≤ (i : Int) := by omega
       have i1 : (i : Int) < (nl : Int) := by omega
       have HS := Lib.hid hs
       have k3' := k3
       rw [hxa] at k3'
       clear hs
       go_wp2_with fail
       go_loopw [4, 5] (fun b k wq => ∃ (j : Nat) (q : Bool), j ≤ al ∧ b = .bool q ∧ k = .int .i64 j ∧ Hid (((A.take j).any fun a => a.data.toList == s.data.toList) = q) ∧ Below w.heap.size w wq) (fun _ k _ => al - (intOf k).toNat)
       case atStart => exact ⟨0, false, by omega, rfl, rfl, by show _ = _; simp, HBR.out⟩
       case round =>
         obtain ⟨j, q, hj, rfl, rfl, HQ, hbq⟩ := hrel
         have q3 := cell_keep hbq k3w
         rw [hxa] at q3
         have q5 := cell_keep hbq k5w
         have cnq := cell_keep hbq cn
         have HBQ := Lib.hid hbq
         clear hbq k3 k3' k5
         by_cases hjl : j < al
         · obtain ⟨a, ha⟩ : ∃ a, A[j]? = some a := ⟨_, List.getElem?_eq_getElem (by rw [HAL.out]; exact hjl)⟩
           obtain ⟨gb, go', haa, ca⟩ := HAC.out j a ha
           have caq := cell_keep HBQ.out ca
           subst haa
           have hm := any_more (s := s) ha
           rw [HQ.out] at hm
           have j0 : (0 : Int) ≤ (j : Int) := by omega
           have j1 : (j : Int) < (al : Int) := by omega
           cases q with
           | true =>
             have HM := Lib.hid (hm.trans (Bool.true_or _))
             clear hm ha HQ
             go_wp2_with fail
             go_region
             all_goals go_wp2_with fail
             all_goals exact ⟨⟨j + 1, true, by omega, rfl, by go_num, HM, by first | exact HBQ.out | exact bel_drew HBQ.out | exact bel_drewN HBQ.out _⟩, by simp [intOf]; omega⟩
           | false =>
             rw [Bool.false_or] at hm
             have HM := Lib.hid hm
             by_cases he : a.data.toList = s.data.toList
             · have heq : (a.toList == s.toList) = true := by rw [toList_data, toList_data, he]; simp
               have HM : Hid (((A.take (j + 1)).any fun a => a.data.toList == s.data.toList) = true) := hm.trans (by rw [he]; simp)
               clear hm ha HQ he
               go_wp2_with fail
               go_region
               all_goals go_wp2_with fail
               all_goals exact ⟨⟨j + 1, true, by omega, rfl, by go_num, HM, by first | exact HBQ.out | exact bel_drew HBQ.out | exact bel_drewN HBQ.out _⟩, by simp [intOf]; omega⟩
             · have heq : (a.toList == s.toList) = false := by rw [toList_data, toList_data]; simpa using he
               have HM : Hid (((A.take (j + 1)).any fun a => a.data.toList == s.data.toList) = false) := hm.trans (by simpa using he)
               clear hm ha HQ he
               go_wp2_with fail
               go_region
               all_goals go_wp2_with fail
               all_goals exact ⟨⟨j + 1, false, by omega, rfl, by go_num, HM, by first | exact HBQ.out | exact bel_drew HBQ.out | exact bel_drewN HBQ.out _⟩, by simp [intOf]; omega⟩
         · have j1 : ¬ (j : Int) < (al : Int) := by omega
           have hq : (A.any fun a => a.data.toList == s.data.toList) = q := by
             have := HQ.out
             rwa [List.take_of_length_le (by rw [HAL.out]; omega)] at this
           cases q with
           | true =>
             have HF2 : Hid (∀ k s, k < i + 1 → V.names[k]? = some s → (A.any fun a => a.data.toList == s.data.toList) = true) := fun k t hk ht => by
               by_cases hki : k = i
               · subst hki
                 rw [HS.out] at ht
                 cases ht
                 exact hq
               · exact HF.out k t (by omega) ht
             clear hq HQ HF
             go_wp2_with fail
             exact ⟨⟨i + 1, by omega, by go_num, HF2, HBQ.out⟩, by simp [intOf]; omega⟩
           | false =>
             have hr : (11 : Int) = res := by
               have := HRES.out
               rw [doneQ, askedAll_at HS.out hq] at this
               exact this
             subst hr
             clear hq HQ HF
             go_wp2_with fail
             go_ret
             exact ⟨rfl, HBQ.out⟩
     · have i1 : ¬ (i : Int) < (nl : Int) := by omega
       have hall : allAsked V A = true := by
         unfold allAsked
         rw [List.all_eq_true]
         intro s hs
         obtain ⟨j, hj⟩ := List.getElem?_of_mem hs
         have hjl := (List.getElem?_eq_some_iff.1 hj).1
         rw [HNL.out] at hjl
         exact HF.out j s (by omega) hj
       have hr : (0 : Int) = res := by
         have := HRES.out
         rw [doneQ, hall] at this
         exact this
       subst hr
       clear hall HF
       go_wp2_with fail
       go_ret
       exact ⟨rfl, HBR.out⟩
end

section
set_option maxRecDepth 100000
open Go.RowKit
def Fit (V : JV) : Prop := V.k = 5 → V.names.length = V.items.length ∧ ascB V.names = true
theorem may_fit {V : JV} (h : mayB V = true) : Fit V := fun hk => by
 obtain ⟨a, -, -⟩ := (mayB_iff V).1 h
 rw [goodV_eq, Bool.and_eq_true] at a
 have := proper_obj a.1 hk
 exact ⟨this.1, this.2.1⟩
set_option maxHeartbeats 8000000 in
theorem dOf_any (V : JV) (x : VC) (Q w0 w : World) (h : ValAt Q V x.val) (hsub : ∀ p u, Q.cell? p = some u → w0.cell? p = some u) (hB0 : Below w0.heap.size w0 w) (hf : Fit V) :
   Calls Tryz.prog 37 #[x.val] w fun e w' => ∃ o, e = .returned (.pointer (some ⟨o, 0, none⟩)) ∧ w.heap.size ≤ o ∧ Below w.heap.size w w' ∧ ∀ M, o < M → DSt Q w0 w' o M V x (.slice none 0 0) (pickQ V) := by
 have HB0 := Lib.hid hB0
 have hsz0 := hB0.size
 obtain ⟨vn, vi, hxe, -, -, -, -, -, hns, his⟩ := valAt_iff.1 h
 obtain ⟨xk, xn, xt, xa, xl, xc, xb, xm, xe⟩ := x
 simp only [VC.val, Value.agg.injEq, Array.mk.injEq, List.cons.injEq, Value.int.injEq, Value.string.injEq, true_and, and_true] at hxe
 obtain ⟨e1, e2, e3, e4, e5⟩ := hxe
 rw [← e4] at hns
 rw [← e5] at his
 obtain ⟨xa', xcap, hxs, hxl, -, hnc⟩ := hns.parts
 obtain ⟨xi', xicap, hxi, hil, -⟩ := his.parts
 simp only [Value.slice.injEq] at hxs hxi
 obtain ⟨f1, f2, f3⟩ := hxs
 obtain ⟨f4, f5, f6⟩ := hxi
 subst f1
 have HV := Lib.hid h
 have HNC := Lib.hid hnc
 obtain ⟨w2, hw2⟩ : ∃ y, y = (w.alloc (.cells #[.int .u8 xk, .int .i64 xn, .string xt, .slice xa xl xc, .slice xb xm xe] 26)).alloc (.cells #[.int .u8 xk, .int .i64 xn, .string xt, .slice xa xl xc, .slice xb xm xe, .slice none 0 0, .int .i64 0] 81) := ⟨_, rfl⟩
 have hB2 : Below w.heap.size w w2 := by rw [hw2]; exact bel_alloc (bel_alloc (Below.refl _ _) _) _
 have s2 : w2.heap.size = w.heap.size + 2 := by rw [hw2, size_al, size_al]
 have HA : Hid (BlkAt w2 w.heap.size 26 #[.int .u8 xk, .int .i64 xn, .string xt, .slice xa xl xc, .slice xb xm xe]) := by rw [hw2]; exact (blkAt_new w _ _).alloc _
 have HO : Hid (BlkAt w2 (w.heap.size + 1) 81 #[.int .u8 xk, .int .i64 xn, .string xt, .slice xa xl xc, .slice xb xm xe, .slice none 0 0, .int .i64 0]) := by
   rw [hw2]
   have := blkAt_new (w.alloc (.cells #[.int .u8 xk, .int .i64 xn, .string xt, .slice xa xl xc, .slice xb xm xe] 26)) #[.int .u8 xk, .int .i64 xn, .string xt, .slice xa xl xc, .slice xb xm xe, .slice none 0 0, .int .i64 0] 81
   rwa [size_al] at this
 have HW2 := Lib.hid hw2
 obtain ⟨a0, a1, a2, a3, a4, af⟩ := b5 HA.out
 obtain ⟨o0, o1, o2, o3, o4, o5, o6, of⟩ := b7 HO.out
 have HB2 := Lib.hid hB2
 clear hw2 h hns his hnc e4 e5 hB2
 by_cases h5 : V.k = 5
 · obtain ⟨hl, hasc⟩ := hf h5
   have hk5 : xk = 5 := by rw [e1, h5]
   have hlm : xl = xm := by rw [f2, f5, hl]
   have hb5 : (xk != 5) = false := by rw [hk5]; rfl
   subst hlm
   have HASC := Lib.hid hasc
   have H5 := Lib.hid h5
   have HL := Lib.hid hl
   have HXL := Lib.hid f2
   have hxl' : xl ≤ 9223372036854775807 := by rw [f2]; exact hxl
   clear hf h5 hl hasc e1 e2 e3 f2 f3 f4 f5 f6 hk5 hxl hil
   go_enter Tryz.func37, Tryz.ntmps37
   simp only [VC.val]
   go_wp2_with fail
   rw [← HW2.out]
   go_loopw [4] (fun i wr => ∃ k : Nat, 1 ≤ k ∧ (k ≤ xl ∨ k = 1) ∧ i = .int .i64 k ∧ ∃ nq, wr = w2.drewN nq) (fun i _ => xl - (intOf i).toNat)
   case atStart => exact ⟨1, by omega, Or.inr rfl, rfl, 0, rfl⟩
   case round =>
     obtain ⟨k, hk1, hk, rfl, nq, rfl⟩ := hrel
     obtain ⟨j, rfl⟩ : ∃ j, k = j + 1 := ⟨k - 1, by omega⟩
     by_cases hlt : j + 1 < xl
     · obtain ⟨s, hs⟩ : ∃ s, V.names[j + 1]? = some s := ⟨_, List.getElem?_eq_getElem (by rw [← HXL.out]; exact hlt)⟩
       obtain ⟨p, hp⟩ : ∃ s, V.names[j]? = some s := ⟨_, List.getElem?_eq_getElem (by rw [← HXL.out]; omega)⟩
       obtain ⟨b, o, rfl, hcs⟩ := HNC.out (j + 1) s hs
       obtain ⟨b', o', hbo, hcp⟩ := HNC.out j p hp
       simp only [Option.some.injEq, Addr.mk.injEq, and_true] at hbo
       obtain ⟨rfl, rfl⟩ := hbo
       have hb : Op.bytesLess p.toList s.toList = true := by
         have h1 := HASC.out
         rw [ascB, List.all_eq_true] at h1
         have h2 := h1 j (List.mem_range.2 (by rw [← HXL.out]; omega))
         simpa [lessAt, List.getD, hs, hp] using h2
       have hcs' := cell_keep (below_more HB0.out HB2.out) (hsub _ _ hcs)
       have hcp' := cell_keep (below_more HB0.out HB2.out) (hsub _ _ hcp)
       clear hs hp hcs hcp
       have hw1 : IntKind.i64.wrap ((j : Int) + 1 - 1) = (j : Int) := by rw [IntWalk.i64_in ((j : Int) + 1 - 1) (by omega)]; omega
       have hj0 : (0 : Int) ≤ (j : Int) := by omega
       have hj1 : (j : Int) < (xl : Int) := by omega
       have hj2 : (j : Int) + 1 < (xl : Int) := by omega
       have hj3 : ((j : Int) + 1).toNat = j + 1 := by omega
       go_wp2_with fail
       go_quiet (fail)
       go_wp2_with fail
       refine ⟨⟨j + 1 + 1, by omega, by omega, by go_num, _, rfl⟩, ?_⟩
       simp [intOf]; omega
     · have hj2 : ¬ (j : Int) + 1 < (xl : Int) := by omega
       go_wp2_with fail
       go_ret
       refine ⟨_, rfl, by omega, below_drewN HB2.out _, fun M hM => ?_⟩
       rw [pickQ, if_pos H5.out]
       exact ⟨below_more HB0.out (below_drewN HB2.out _), hsub, HV.out, H5.out, HL.out, by omega, hM, HO.out, World.ownsRow_nil _ _ _ _, by simp, by simp⟩
 · have hb5 : (xk != 5) = true := by rw [bne_iff_ne, e1]; exact h5
   have H5 := Lib.hid h5
   clear hf h5 e1 e2 e3 f2 f3 f4 f5 f6
   go_enter Tryz.func37, Tryz.ntmps37
   simp only [VC.val]
   go_wp2_with fail
   go_ret
   have hb := bel_alloc (bel_alloc (Below.refl w.heap.size w) (.cells #[.int .u8 xk, .int .i64 xn, .string xt, .slice xa xl xc, .slice xb xm xe] 26)) (.cells #[.int .u8 xk, .int .i64 xn, .string xt, .slice xa xl xc, .slice xb xm xe, .slice none 0 0, .int .i64 10] 81)
   refine ⟨_, rfl, by omega, hb, fun M hM => ?_⟩
   rw [pickQ, if_neg H5.out]
   refine ⟨below_more HB0.out hb, by omega, by decide, .int .u8 xk, .int .i64 xn, .string xt, .slice xa xl xc, .slice xb xm xe, .slice none 0 0, ?_⟩
   have := blkAt_new (w.alloc (.cells #[.int .u8 xk, .int .i64 xn, .string xt, .slice xa xl xc, .slice xb xm xe] 26)) #[.int .u8 xk, .int .i64 xn, .string xt, .slice xa xl xc, .slice xb xm xe, .slice none 0 0, .int .i64 10] 81
   rwa [size_al] at this
end
end Go.Proofs.YtmggmpigpiaagaaGreatDoor
