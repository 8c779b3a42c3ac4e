/-
  legatelaw09.bytes: so many of one byte.
-/
import Derived.Test.YtngebebhaehmnaaGreatDoorBlk
import Derived.Deep.LoopGhost
import Derived.Laws.OwnMore
namespace Go.Proofs.YtngebebhaehmnaaGreatDoor
open Go.RowKit

theorem blkAt_fresh (w : World) (cs : Array Value) (T : TypeId) : BlkAt (w.alloc (.cells cs T)) w.heap.size T cs := heap_alloc_new w _
theorem infoU8 : (Tryz.prog.info? 5).map (fun i => (i.zero, i.size, i.bytes)) = some (some (.int .u8 0), 1, 1) := by kernel_rfl
set_option maxRecDepth 100000 in
set_option maxHeartbeats 4000000 in
theorem bytes9_any (c : UInt8) (n : Nat) (w : World) (hn : n ≤ 70000) :
    Calls Tryz.prog 15 #[.int .u8 (c.toNat : Int), .int .i64 n] w fun e w' => e = .returned (.string ⟨(List.replicate n c).toArray⟩) ∧ Below w.heap.size w w' := by
  obtain ⟨i0, hi, hz0, hz1, hz2⟩ := info_parts infoU8
  have hmk := run_makeSlice (P := Tryz.prog) w 36 5 i0 (.int .u8 0) Tryz.underlying36 hi hz0 .i64 .i64 n n (by omega) (Int.le_refl _) (by rw [hz1, Int.toNat_natCast]; omega) (by rw [hz2]; omega) (by omega)
  rw [hz1, Int.toNat_natCast, Nat.mul_one] at hmk
  obtain ⟨cs, hcs⟩ : ∃ cs, cs = madeCells (Value.int .u8 0).cells n := ⟨_, rfl⟩
  have hsz : cs.size = n := by rw [hcs]; exact size_madeCells _ _
  rw [← hcs] at hmk
  have HSZ := Lib.hid hsz
  clear hcs hsz hi hz0 hz1 hz2
  go_enter Tryz.func15, Tryz.ntmps15
  go_wp2_with fail
  have hK1 : Hid (BlkAt (w.alloc (.cells cs 5)) w.heap.size 5 cs) := blkAt_fresh w cs _
  have hB1 : Hid (Below w.heap.size w (w.alloc (.cells cs 5))) := bel_alloc (Below.refl _ _) _
  generalize w.alloc (.cells cs 5) = w1 at hK1 hB1 ⊢
  obtain ⟨b, hb⟩ : ∃ b, w.heap.size = b := ⟨_, rfl⟩
  have HBB := Lib.hid hb
  rw [hb] at hK1 ⊢
  clear hb hmk
  go_loopg [6] n (fun gk u wr => ∃ (i : Nat) (cr : Array Value), n - i = gk ∧ u = .int .i64 i ∧ i ≤ n ∧ Hid (cr.size = n) ∧ Hid (BlkAt wr b 5 cr) ∧ Hid (∀ j, j < i → cr[j]? = some (.int .u8 (c.toNat : Int))) ∧ Hid (Below w.heap.size w wr))
  case atStart => exact ⟨0, cs, rfl, rfl, Nat.zero_le _, HSZ, hK1, fun j hj => by omega, hB1⟩
  case round =>
    obtain ⟨i, cr, rfl, rfl, hi, HCS, HK, HL, HB⟩ := hrel
    clear hK1 hB1 HSZ
    by_cases hlt : i < n
    · have i0 : (0 : Int) ≤ (i : Int) := by omega
      have i1 : (i : Int) < (n : Int) := by omega
      have c0 : wr.cell? ⟨b, i, none⟩ = some (cr[i]'(by rw [HCS.out]; exact hlt)) := by rw [HK.out.cell i]; exact Array.getElem?_eq_getElem _
      have f0 := HK.out.free i
      go_wp2_with fail
      go_roundg (n - (i + 1))
      case rel =>
        refine ⟨i + 1, cr.setIfInBounds i (.int .u8 (c.toNat : Int)), rfl, by go_num, by omega, ?_, BlkAt.set HK.out i _, fun j hj => ?_, bel_set HB.out (by show w.heap.size ≤ b; rw [HBB.out]; exact Nat.le_refl _) _⟩
        · show _ = _
          rw [Array.size_setIfInBounds, HCS.out]
        · rw [Array.getElem?_setIfInBounds]
          by_cases e : i = j
          · rw [if_pos e, if_pos (by rw [HCS.out]; exact hlt)]
          · rw [if_neg e]; exact HL.out j (by omega)
      case measure => omega
    · have i1 : ¬ (i : Int) < (n : Int) := by omega
      obtain rfl : i = n := by omega
      have hcv := run_convert_bytes_back (P := Tryz.prog) wr 36 9 5 ⟨b, 0, none⟩ i (List.replicate i c) Tryz.underlying36 Tryz.underlying5 Tryz.underlying9 (fun j hj => by
        rw [List.length_replicate] at hj
        have hadd : (⟨b, 0, none⟩ : Addr).add j = ⟨b, j, none⟩ := by unfold Addr.add; split <;> simp_all
        rw [hadd, HK.out.cell j, HL.out j hj, List.getElem_replicate])
      rw [List.length_replicate] at hcv
      go_wp2_with fail
      go_ret
      exact ⟨rfl, HB.out⟩
end Go.Proofs.YtngebebhaehmnaaGreatDoor
