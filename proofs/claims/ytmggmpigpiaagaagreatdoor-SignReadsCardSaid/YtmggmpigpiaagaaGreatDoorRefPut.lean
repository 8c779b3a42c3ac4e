/-
 legateref04.Rune and legateref04.Put: a rune's bytes, by the document's words.
-/
import Derived.Test.YtmggmpigpiaagaaGreatDoorSignD
namespace Go.Proofs.YtmggmpigpiaagaaGreatDoor
set_option maxRecDepth 100000
open Go.RowKit
theorem refRune_yes (r : Int) (w : World) (h : isRune r) :
   Calls Tryz.prog 144 #[.int .i64 r] w fun e w' => e = .returned (.bool true) ∧ w = w' := by
 obtain ⟨h0, h1, h2⟩ := h
 have d0 : decide ((0 : Int) ≤ r) = true := by simp; omega
 have d1 : decide (r ≤ 1114111) = true := by simp; omega
 by_cases hl : r < 55296
 · have d2 : decide (r < 55296) = true := by simp; omega
   clear h2
   go_enter Tryz.func144, Tryz.ntmps144
   go_wp2_with fail
   go_ret
   exact ⟨rfl, rfl⟩
 · have d2 : decide (r < 55296) = false := by simp; omega
   have d3 : decide (57343 < r) = true := by simp; omega
   clear h2
   go_enter Tryz.func144, Tryz.ntmps144
   go_wp2_with fail
   go_ret
   exact ⟨rfl, rfl⟩
theorem conv_new (w : World) (l : List UInt8) (cs : Array Value) (h : cs = (l.map (fun c => Value.int .u8 (c.toNat : Int))).toArray) :
   (convert 35 9 (.slice (some ⟨w.heap.size, 0, none⟩) l.length l.length)).run Tryz.prog (w.alloc (.cells cs 5)) = .ok (.string ⟨l.toArray⟩) (w.alloc (.cells cs 5)) := by
 refine run_convert_bytes_back _ _ _ _ ⟨w.heap.size, 0, none⟩ l.length l Tryz.underlying35 Tryz.underlying5 Tryz.underlying9 fun j hj => ?_
 have hadd : (⟨w.heap.size, 0, none⟩ : Addr).add j = ⟨w.heap.size, j, none⟩ := by unfold Addr.add; split <;> simp_all
 rw [hadd, cell_al_eq _ _ _ _ _ rfl, h]
 simp [hj]
theorem u8_of (x : Int) (h0 : 0 ≤ x) (h1 : x < 256) (k : Nat) (hk : x = (k : Int)) : Value.int .u8 x = Value.int .u8 ((UInt8.ofNat k).toNat : Int) := by
 have : (UInt8.ofNat k).toNat = k := by rw [UInt8.toNat_ofNat']; exact Nat.mod_eq_of_lt (by omega)
 rw [this, hk]
set_option maxHeartbeats 2000000 in
theorem refPut_any (r : Int) (w : World) (h : isRune r) (t : ByteArray) (ht : Hid (t = ⟨(encP r).toArray⟩)) :
   Calls Tryz.prog 122 #[.int .i64 r] w fun e w' => e = .returned (.tuple #[.string t, .int .i64 0]) ∧ Below w.heap.size w w' := by
 have HR := Lib.hid (fun W => refRune_yes r W h)
 obtain ⟨h0, h1, -⟩ := h
 by_cases a0 : r < 128
 · have d0 : decide (r < 128) = true := by simp; omega
   have he : encP r = [UInt8.ofNat (r.toNat)] := by unfold encP; rw [if_pos a0]
   have hcv : (convert 35 9 (.slice (some ⟨w.heap.size, 0, none⟩) 1 1)).run Tryz.prog (w.alloc (.cells #[.int .u8 (r)] 5)) = .ok (.string t) (w.alloc (.cells #[.int .u8 (r)] 5)) := by
     rw [ht.out, he]
     refine conv_new w [UInt8.ofNat (r.toNat)] _ ?_
     simp only [List.map_cons, List.map_nil]
     rw [← u8_of (r) (by omega) (by omega) (r.toNat) (by omega)]
   clear ht he
   go_enter Tryz.func122, Tryz.ntmps122
   go_wp2_with fail
   refine (HR.out _).mono ?_
   rintro e w3 ⟨rfl, rfl⟩
   go_wp2_with fail
   go_ret2
   exact ⟨rfl, bel_alloc (Below.refl _ _) _⟩
 · have d0 : decide (r < 128) = false := by simp; omega
   by_cases a1 : r < 2048
   · have d1 : decide (r < 2048) = true := by simp; omega
     have he : encP r = [UInt8.ofNat (192 + r.toNat / 64), UInt8.ofNat (128 + r.toNat % 64)] := by unfold encP; rw [if_neg a0, if_pos a1]
     have hcv : (convert 35 9 (.slice (some ⟨w.heap.size, 0, none⟩) 2 2)).run Tryz.prog (w.alloc (.cells #[.int .u8 (192 + r / 64), .int .u8 (128 + r % 64)] 5)) = .ok (.string t) (w.alloc (.cells #[.int .u8 (192 + r / 64), .int .u8 (128 + r % 64)] 5)) := by
       rw [ht.out, he]
       refine conv_new w [UInt8.ofNat (192 + r.toNat / 64), UInt8.ofNat (128 + r.toNat % 64)] _ ?_
       simp only [List.map_cons, List.map_nil]
       rw [← u8_of (192 + r / 64) (by omega) (by omega) (192 + r.toNat / 64) (by omega), ← u8_of (128 + r % 64) (by omega) (by omega) (128 + r.toNat % 64) (by omega)]
     clear ht he
     go_enter Tryz.func122, Tryz.ntmps122
     go_wp2_with fail
     refine (HR.out _).mono ?_
     rintro e w3 ⟨rfl, rfl⟩
     go_wp2_with fail
     go_ret2
     exact ⟨rfl, bel_alloc (Below.refl _ _) _⟩
   · have d1 : decide (r < 2048) = false := by simp; omega
     by_cases a2 : r < 65536
     · have d2 : decide (r < 65536) = true := by simp; omega
       have he : encP r = [UInt8.ofNat (224 + r.toNat / 4096), UInt8.ofNat (128 + r.toNat / 64 % 64), UInt8.ofNat (128 + r.toNat % 64)] := by unfold encP; rw [if_neg a0, if_neg a1, if_pos a2]
       have hcv : (convert 35 9 (.slice (some ⟨w.heap.size, 0, none⟩) 3 3)).run Tryz.prog (w.alloc (.cells #[.int .u8 (224 + r / 4096), .int .u8 (128 + r / 64 % 64), .int .u8 (128 + r % 64)] 5)) = .ok (.string t) (w.alloc (.cells #[.int .u8 (224 + r / 4096), .int .u8 (128 + r / 64 % 64), .int .u8 (128 + r % 64)] 5)) := by
         rw [ht.out, he]
         refine conv_new w [UInt8.ofNat (224 + r.toNat / 4096), UInt8.ofNat (128 + r.toNat / 64 % 64), UInt8.ofNat (128 + r.toNat % 64)] _ ?_
         simp only [List.map_cons, List.map_nil]
         rw [← u8_of (224 + r / 4096) (by omega) (by omega) (224 + r.toNat / 4096) (by omega), ← u8_of (128 + r / 64 % 64) (by omega) (by omega) (128 + r.toNat / 64 % 64) (by omega), ← u8_of (128 + r % 64) (by omega) (by omega) (128 + r.toNat % 64) (by omega)]
       clear ht he
       go_enter Tryz.func122, Tryz.ntmps122
       go_wp2_with fail
       refine (HR.out _).mono ?_
       rintro e w3 ⟨rfl, rfl⟩
       go_wp2_with fail
       go_ret2
       exact ⟨rfl, bel_alloc (Below.refl _ _) _⟩
     · have d2 : decide (r < 65536) = false := by simp; omega
       have he : encP r = [UInt8.ofNat (240 + r.toNat / 262144), UInt8.ofNat (128 + r.toNat / 4096 % 64), UInt8.ofNat (128 + r.toNat / 64 % 64), UInt8.ofNat (128 + r.toNat % 64)] := by unfold encP; rw [if_neg a0, if_neg a1, if_neg a2]
       have hcv : (convert 35 9 (.slice (some ⟨w.heap.size, 0, none⟩) 4 4)).run Tryz.prog (w.alloc (.cells #[.int .u8 (240 + r / 262144), .int .u8 (128 + r / 4096 % 64), .int .u8 (128 + r / 64 % 64), .int .u8 (128 + r % 64)] 5)) = .ok (.string t) (w.alloc (.cells #[.int .u8 (240 + r / 262144), .int .u8 (128 + r / 4096 % 64), .int .u8 (128 + r / 64 % 64), .int .u8 (128 + r % 64)] 5)) := by
         rw [ht.out, he]
         refine conv_new w [UInt8.ofNat (240 + r.toNat / 262144), UInt8.ofNat (128 + r.toNat / 4096 % 64), UInt8.ofNat (128 + r.toNat / 64 % 64), UInt8.ofNat (128 + r.toNat % 64)] _ ?_
         simp only [List.map_cons, List.map_nil]
         rw [← u8_of (240 + r / 262144) (by omega) (by omega) (240 + r.toNat / 262144) (by omega), ← u8_of (128 + r / 4096 % 64) (by omega) (by omega) (128 + r.toNat / 4096 % 64) (by omega), ← u8_of (128 + r / 64 % 64) (by omega) (by omega) (128 + r.toNat / 64 % 64) (by omega), ← u8_of (128 + r % 64) (by omega) (by omega) (128 + r.toNat % 64) (by omega)]
       clear ht he
       go_enter Tryz.func122, Tryz.ntmps122
       go_wp2_with fail
       refine (HR.out _).mono ?_
       rintro e w3 ⟨rfl, rfl⟩
       go_wp2_with fail
       go_ret2
       exact ⟨rfl, bel_alloc (Below.refl _ _) _⟩
end Go.Proofs.YtmggmpigpiaagaaGreatDoor
