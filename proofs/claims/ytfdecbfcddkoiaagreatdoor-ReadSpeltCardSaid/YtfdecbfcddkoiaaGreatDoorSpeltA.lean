/-
  How the law ReadSpelt writes: next, blank, digits.
  How the law ReadSpelt writes: a text.
  How the law ReadSpelt writes: a number.
-/
import Derived.Test.YtfdecbfcddkoiaaGreatDoorReadSpeltP
import Derived.Test.YtfdecbfcddkoiaaGreatDoorOwnB
import Derived.Test.YtfdecbfcddkoiaaGreatDoorBlk
import Derived.Test.YtfdecbfcddkoiaaGreatDoorReadList
import Derived.BigQuiet
import Derived.StillTailTactics
import Derived.Test.YtfdecbfcddkoiaaGreatDoorUtfN
import Derived.Lib.AppendStr
import Derived.Test.YtfdecbfcddkoiaaGreatDoorNumRefShow
import Derived.BigRegion
namespace Go.Proofs.YtfdecbfcddkoiaaGreatDoor
section
open Go.RowKit

/-- The row of numbers, and how many have been taken. -/
structure SpAt (w : World) (r : Nat) (a : Option Addr) (how : List UInt8) (n : Nat) : Prop where
  blk : ∃ l c, BlkAt w r 37 #[.slice a l c, .int .i64 n] ∧ l = how.length ∧ l ≤ 9223372036854775807 ∧ ∀ i x, how[i]? = some x → ∃ b o, a = some ⟨b, o, none⟩ ∧ b ≠ r ∧ w.cell? ⟨b, o + i, none⟩ = some (.int .u8 (x.toNat : Int))
/-- One block alone has turned, and what is new. -/
theorem SpAt.keep {w w' : World} {r : Nat} {a : Option Addr} {how : List UInt8} {n : Nat} (h : SpAt w r a how n) (hb : Below w.heap.size w w') : SpAt w' r a how n := by
  obtain ⟨l, c, h1, h2, h3, h4⟩ := h.blk
  refine ⟨l, c, h1.keep hb, h2, h3, fun i x hx => ?_⟩
  obtain ⟨b, o, e, hne, hc⟩ := h4 i x hx
  exact ⟨b, o, e, hne, cell_keep hb hc⟩
/-- A row behind a mark has grown. -/
theorem SpAt.far {w wr w' : World} {r g : Nat} {a : Option Addr} {how : List UInt8} {n0 n : Nat} (h0 : SpAt w r a how n0) (h : SpAt wr r a how n) (hs : w.heap.size ≤ wr.heap.size) (hg : wr.grownBy w' (some g)) (hgb : w.heap.size ≤ g) : SpAt w' r a how n := by
  obtain ⟨l0, c0, k1, -, -, k4⟩ := h0.blk
  obtain ⟨l, c, h1, h2, h3, h4⟩ := h.blk
  have hr := k1.lt
  refine ⟨l, c, ?_, h2, h3, fun i x hx => ?_⟩
  · exact (hg.block r (by omega) (fun e => by have := Option.some.inj e; omega)).trans h1
  · obtain ⟨b0, o0, e0, -, hc0⟩ := k4 i x hx
    obtain ⟨b, o, e, hne, hc⟩ := h4 i x hx
    have hbb : b0 = b := congrArg Addr.block (Option.some.inj (e0.symm.trans e))
    have hb := cell_lt hc0
    exact ⟨b, o, e, hne, (hg.cell_far _ (by have : b0 < w.heap.size := hb; show b < _; omega) (fun e => by have h5 : b = g := Option.some.inj e; have h6 : b0 < w.heap.size := hb; omega)).trans hc⟩
set_option maxRecDepth 100000 in
set_option maxHeartbeats 4000000 in
theorem spNext_any {w : World} {r : Nat} {a : Option Addr} {how : List UInt8} {n : Nat} (h : SpAt w r a how n) (hn : n ≤ 1000000000) :
    Calls Tryz.prog 23 #[.pointer (some ⟨r, 0, none⟩)] w fun e w' => e = .returned (.int .i64 ((nextS how n).1 : Nat)) ∧ w.grownBy w' (some r) ∧ SpAt w' r a how (nextS how n).2 := by
  obtain ⟨l, c, hblk, hl, hl2, hcell⟩ := h.blk
  have c0 := hblk.cell 0
  have c1 := hblk.cell 1
  simp at c0 c1
  by_cases h0 : how = []
  · subst h0
    obtain rfl : l = 0 := hl
    have HH := Lib.hid h
    clear h hcell
    go_enter Tryz.func23, Tryz.ntmps23
    go_wp2_with fail
    go_ret
    exact ⟨rfl, World.grownBy.refl _ _, HH.out⟩
  · have hlp : 0 < l := by rw [hl]; exact List.length_pos_iff.2 h0
    obtain ⟨x, hx⟩ : ∃ x, how[n % l]? = some x := ⟨_, List.getElem?_eq_getElem (by rw [← hl]; exact Nat.mod_lt _ hlp)⟩
    obtain ⟨b, o, rfl, hne, hc⟩ := hcell _ x hx
    have hns : nextS how n = (x.toNat, n + 1) := by
      unfold nextS
      rw [if_neg h0, ← hl, List.getD_eq_getElem?_getD, hx]
      rfl
    rw [hns]
    have hmod : (n : Int).tmod (l : Int) = ((n % l : Nat) : Int) := by rw [Int.tmod_eq_emod_of_nonneg (by omega)]; exact (Int.natCast_emod _ _).symm
    have hm0 : (0 : Int) ≤ ((n % l : Nat) : Int) := by omega
    have hm1 : ((n % l : Nat) : Int) < (l : Int) := by have := Nat.mod_lt n hlp; omega
    have hlz : ((l : Int) == 0) = false := beq_eq_false_iff_ne.2 (by omega)
    have hlz2 : ¬ (l : Int) = 0 := by omega
    have hf1 := hblk.free 1
    have HB := Lib.hid hblk
    have HC := Lib.hid hcell
    have HL := Lib.hid hl
    have hxb := u8_lt x
    clear hblk hcell h hns hl
    go_enter Tryz.func23, Tryz.ntmps23
    go_wp2_with fail
    go_quiet (fail)
    go_wp2_with fail
    go_ret
    have hfar : ∀ k, k ≠ r → ((w.drewN nq).setCell ⟨r, 1, none⟩ (.int .i64 ((n : Int) + 1))).heap[k]? = w.heap[k]? := fun k hk => Below.heap_setCell _ _ _ _ hk
    refine ⟨rfl, grown_set (grown_drewN (World.grownBy.refl _ _) _) _ _, ⟨l, c, BlkAt.set (w := w.drewN nq) HB.out 1 (.int .i64 ((n : Int) + 1)), HL.out, hl2, fun i y hy => ?_⟩⟩
    obtain ⟨b', o', e, hne', hc'⟩ := HC.out i y hy
    refine ⟨b', o', e, hne', ?_⟩
    rw [← hc']
    unfold World.cell?
    rw [hfar _ hne']
theorem nextS_byte (how : List UInt8) (n : Nat) : (nextS how n).1 < 256 := by
  unfold nextS
  split
  · simp
  · exact u8_lt _
theorem blank_cell (k : Nat) : (#[.string ⟨#[]⟩, .string ⟨#[32]⟩, .string ⟨#[9]⟩, .string ⟨#[10]⟩, .string ⟨#[13]⟩, .string ⟨#[32, 10, 32]⟩, .string ⟨#[]⟩, .string ⟨#[]⟩] : Array Value)[k % 8]? = some (.string ⟨(blankL k).toArray⟩) := by
  have h : ∀ j : Fin 8, (#[.string ⟨#[]⟩, .string ⟨#[32]⟩, .string ⟨#[9]⟩, .string ⟨#[10]⟩, .string ⟨#[13]⟩, .string ⟨#[32, 10, 32]⟩, .string ⟨#[]⟩, .string ⟨#[]⟩] : Array Value)[j.val]? = some (.string ⟨((match j.val with | 1 => [32] | 2 => [9] | 3 => [10] | 4 => [13] | 5 => [32, 10, 32] | _ => ([] : List UInt8))).toArray⟩) := fun j => by
    match j with
    | 0 => rfl
    | 1 => rfl
    | 2 => rfl
    | 3 => rfl
    | 4 => rfl
    | 5 => rfl
    | 6 => rfl
    | 7 => rfl
  exact h ⟨k % 8, Nat.mod_lt _ (by decide)⟩
set_option maxRecDepth 100000 in
set_option maxHeartbeats 4000000 in
theorem spBlank_any {w : World} {r : Nat} {a : Option Addr} {how : List UInt8} {n : Nat} (h : SpAt w r a how n) (hn : n ≤ 1000000000) :
    Calls Tryz.prog 20 #[.pointer (some ⟨r, 0, none⟩)] w fun e w' => e = .returned (.string ⟨(blankS how n).1.toArray⟩) ∧ w.grownBy w' (some r) ∧ SpAt w' r a how (blankS how n).2 := by
  have hk := nextS_byte how n
  have HN := Lib.hid (spNext_any h hn)
  unfold blankS
  obtain ⟨k, hke⟩ : ∃ k, (nextS how n).1 = k := ⟨_, rfl⟩
  obtain ⟨n', hne⟩ : ∃ k, (nextS how n).2 = k := ⟨_, rfl⟩
  simp only []
  rw [hke, hne] at HN ⊢
  rw [hke] at hk
  clear hke hne h
  have hmod : (k : Int).tmod 8 = ((k % 8 : Nat) : Int) := by rw [Int.tmod_eq_emod_of_nonneg (by omega)]; exact (Int.natCast_emod _ _).symm
  obtain ⟨m, hm⟩ : ∃ m, k % 8 = m := ⟨_, rfl⟩
  have hm8 : m < 8 := by omega
  rw [hm] at hmod
  have hm0 : (0 : Int) ≤ (m : Int) := by omega
  have hm1 : (m : Int) < 8 := by omega
  have hcl := blank_cell k
  rw [hm] at hcl
  have HCL := Lib.hid hcl
  clear hcl hm
  go_enter Tryz.func20, Tryz.ntmps20
  go_wp2_with fail
  refine HN.out.mono ?_
  rintro e w1 ⟨rfl, hg, hs⟩
  have HS := Lib.hid (hs.keep (bel_alloc (Below.refl _ _) (.cells #[.string ⟨#[]⟩, .string ⟨#[32]⟩, .string ⟨#[9]⟩, .string ⟨#[10]⟩, .string ⟨#[13]⟩, .string ⟨#[32, 10, 32]⟩, .string ⟨#[]⟩, .string ⟨#[]⟩] 9)))
  have hcc : (w1.alloc (.cells #[.string ⟨#[]⟩, .string ⟨#[32]⟩, .string ⟨#[9]⟩, .string ⟨#[10]⟩, .string ⟨#[13]⟩, .string ⟨#[32, 10, 32]⟩, .string ⟨#[]⟩, .string ⟨#[]⟩] 9)).cell? ⟨w1.heap.size, m, none⟩ = some (.string ⟨(blankL k).toArray⟩) := (cell_al_eq _ _ _ _ _ rfl).trans HCL.out
  clear hs
  go_wp2_with fail
  go_ret
  exact ⟨rfl, grown_alloc hg _, HS.out⟩
theorem and_15 (c : Nat) (hc : c < 65536) : bits .and .i64 (c : Int) 15 = ((c % 16 : Nat) : Int) := by
  have hm : c % 16 < 16 := Nat.mod_lt _ (by decide)
  show IntKind.i64.wrap ((BitVec.ofInt 64 (c : Int) &&& BitVec.ofInt 64 ((15 : Nat) : Int)).toNat : Int) = _
  have e1 : (BitVec.ofInt 64 (c : Int)).toNat = c := by rw [BitVec.ofInt_natCast, BitVec.toNat_ofNat]; exact Nat.mod_eq_of_lt (by omega)
  have e2 : (BitVec.ofInt 64 ((15 : Nat) : Int)).toNat = 2 ^ 4 - 1 := by rw [BitVec.ofInt_natCast, BitVec.toNat_ofNat]
  rw [BitVec.toNat_and, e1, e2, Nat.and_two_pow_sub_one_eq_mod, IntKind.wrap_i64]
  omega
theorem hex_big (d : Nat) (h : d < 16) : (⟨#[48, 49, 50, 51, 52, 53, 54, 55, 56, 57, 65, 66, 67, 68, 69, 70]⟩ : ByteArray)[d]'h = hexD d true := by
  have : ∀ j : Fin 16, (⟨#[48, 49, 50, 51, 52, 53, 54, 55, 56, 57, 65, 66, 67, 68, 69, 70]⟩ : ByteArray)[j.val]'j.isLt = hexD j.val true := by decide
  exact this ⟨d, h⟩
theorem hex_low (d : Nat) (h : d < 16) : (⟨#[48, 49, 50, 51, 52, 53, 54, 55, 56, 57, 97, 98, 99, 100, 101, 102]⟩ : ByteArray)[d]'h = hexD d false := by
  have : ∀ j : Fin 16, (⟨#[48, 49, 50, 51, 52, 53, 54, 55, 56, 57, 97, 98, 99, 100, 101, 102]⟩ : ByteArray)[j.val]'j.isLt = hexD j.val false := by decide
  exact this ⟨d, h⟩
set_option maxRecDepth 100000 in
set_option maxHeartbeats 4000000 in
theorem spDigits_any (v : Nat) (hv : v < 65536) (big : Bool) (w : World) :
    Calls Tryz.prog 37 #[.int .i64 v, .bool big] w fun e w' => e = .returned (.string ⟨(digS v big).toArray⟩) ∧ Below w.heap.size w w' := by
  obtain ⟨d1, hd1⟩ : ∃ d, v / 4096 % 16 = d := ⟨_, rfl⟩
  obtain ⟨d2, hd2⟩ : ∃ d, v / 256 % 16 = d := ⟨_, rfl⟩
  obtain ⟨d3, hd3⟩ : ∃ d, v / 16 % 16 = d := ⟨_, rfl⟩
  obtain ⟨d4, hd4⟩ : ∃ d, v % 16 = d := ⟨_, rfl⟩
  have q1 : bits .and .i64 ((v : Int) / 4096) 15 = (d1 : Int) := by rw [← hd1, ← and_15 (v / 4096) (by omega)]; rfl
  have q2 : bits .and .i64 ((v : Int) / 256) 15 = (d2 : Int) := by rw [← hd2, ← and_15 (v / 256) (by omega)]; rfl
  have q3 : bits .and .i64 ((v : Int) / 16) 15 = (d3 : Int) := by rw [← hd3, ← and_15 (v / 16) (by omega)]; rfl
  have q4 : bits .and .i64 (v : Int) 15 = (d4 : Int) := by rw [← hd4]; exact and_15 v hv
  have b1 : d1 < 16 := by omega
  have b2 : d2 < 16 := by omega
  have b3 : d3 < 16 := by omega
  have b4 : d4 < 16 := by omega
  have hdg : digS v big = [92, 117, hexD d1 big, hexD d2 big, hexD d3 big, hexD d4 big] := by
    unfold digS fourS
    rw [hd1, hd2, hd3, hd4]
  rw [hdg]
  clear hd1 hd2 hd3 hd4 hdg
  have z1 : (0 : Int) ≤ (d1 : Int) := by omega
  have z2 : (0 : Int) ≤ (d2 : Int) := by omega
  have z3 : (0 : Int) ≤ (d3 : Int) := by omega
  have z4 : (0 : Int) ≤ (d4 : Int) := by omega
  have y1 : (d1 : Int) < 16 := by omega
  have y2 : (d2 : Int) < 16 := by omega
  have y3 : (d3 : Int) < 16 := by omega
  have y4 : (d4 : Int) < 16 := by omega
  cases big with
  | true =>
    have hconv : (convert 32 9 (.slice (some ⟨w.heap.size, 0, none⟩) 4 4)).run Tryz.prog ((w.alloc (.cells #[.int .u8 (((⟨#[48, 49, 50, 51, 52, 53, 54, 55, 56, 57, 65, 66, 67, 68, 69, 70]⟩ : ByteArray)[d1]'b1).toNat : Int), .int .u8 (((⟨#[48, 49, 50, 51, 52, 53, 54, 55, 56, 57, 65, 66, 67, 68, 69, 70]⟩ : ByteArray)[d2]'b2).toNat : Int), .int .u8 (((⟨#[48, 49, 50, 51, 52, 53, 54, 55, 56, 57, 65, 66, 67, 68, 69, 70]⟩ : ByteArray)[d3]'b3).toNat : Int), .int .u8 (((⟨#[48, 49, 50, 51, 52, 53, 54, 55, 56, 57, 65, 66, 67, 68, 69, 70]⟩ : ByteArray)[d4]'b4).toNat : Int)] 5)).drew) = .ok (.string ⟨[((⟨#[48, 49, 50, 51, 52, 53, 54, 55, 56, 57, 65, 66, 67, 68, 69, 70]⟩ : ByteArray)[d1]'b1), ((⟨#[48, 49, 50, 51, 52, 53, 54, 55, 56, 57, 65, 66, 67, 68, 69, 70]⟩ : ByteArray)[d2]'b2), ((⟨#[48, 49, 50, 51, 52, 53, 54, 55, 56, 57, 65, 66, 67, 68, 69, 70]⟩ : ByteArray)[d3]'b3), ((⟨#[48, 49, 50, 51, 52, 53, 54, 55, 56, 57, 65, 66, 67, 68, 69, 70]⟩ : ByteArray)[d4]'b4)].toArray⟩) ((w.alloc (.cells #[.int .u8 (((⟨#[48, 49, 50, 51, 52, 53, 54, 55, 56, 57, 65, 66, 67, 68, 69, 70]⟩ : ByteArray)[d1]'b1).toNat : Int), .int .u8 (((⟨#[48, 49, 50, 51, 52, 53, 54, 55, 56, 57, 65, 66, 67, 68, 69, 70]⟩ : ByteArray)[d2]'b2).toNat : Int), .int .u8 (((⟨#[48, 49, 50, 51, 52, 53, 54, 55, 56, 57, 65, 66, 67, 68, 69, 70]⟩ : ByteArray)[d3]'b3).toNat : Int), .int .u8 (((⟨#[48, 49, 50, 51, 52, 53, 54, 55, 56, 57, 65, 66, 67, 68, 69, 70]⟩ : ByteArray)[d4]'b4).toNat : Int)] 5)).drew) :=
      run_convert_bytes_back (P := Tryz.prog) ((w.alloc (.cells #[.int .u8 (((⟨#[48, 49, 50, 51, 52, 53, 54, 55, 56, 57, 65, 66, 67, 68, 69, 70]⟩ : ByteArray)[d1]'b1).toNat : Int), .int .u8 (((⟨#[48, 49, 50, 51, 52, 53, 54, 55, 56, 57, 65, 66, 67, 68, 69, 70]⟩ : ByteArray)[d2]'b2).toNat : Int), .int .u8 (((⟨#[48, 49, 50, 51, 52, 53, 54, 55, 56, 57, 65, 66, 67, 68, 69, 70]⟩ : ByteArray)[d3]'b3).toNat : Int), .int .u8 (((⟨#[48, 49, 50, 51, 52, 53, 54, 55, 56, 57, 65, 66, 67, 68, 69, 70]⟩ : ByteArray)[d4]'b4).toNat : Int)] 5)).drew) 32 9 5 ⟨w.heap.size, 0, none⟩ 4 [((⟨#[48, 49, 50, 51, 52, 53, 54, 55, 56, 57, 65, 66, 67, 68, 69, 70]⟩ : ByteArray)[d1]'b1), ((⟨#[48, 49, 50, 51, 52, 53, 54, 55, 56, 57, 65, 66, 67, 68, 69, 70]⟩ : ByteArray)[d2]'b2), ((⟨#[48, 49, 50, 51, 52, 53, 54, 55, 56, 57, 65, 66, 67, 68, 69, 70]⟩ : ByteArray)[d3]'b3), ((⟨#[48, 49, 50, 51, 52, 53, 54, 55, 56, 57, 65, 66, 67, 68, 69, 70]⟩ : ByteArray)[d4]'b4)] Tryz.underlying32 Tryz.underlying5 Tryz.underlying9 (fun j hj => by
        have hadd : (⟨w.heap.size, 0, none⟩ : Addr).add j = ⟨w.heap.size, j, none⟩ := by unfold Addr.add; split <;> simp_all
        rw [hadd]
        refine (cell_al_eq w _ _ _ j rfl).trans ?_
        simp only [List.length_cons, List.length_nil] at hj
        obtain rfl | rfl | rfl | rfl : j = 0 ∨ j = 1 ∨ j = 2 ∨ j = 3 := by omega
        all_goals rfl)
    have f1 := hex_big d1 b1
    have f2 := hex_big d2 b2
    have f3 := hex_big d3 b3
    have f4 := hex_big d4 b4
    have hres : (⟨#[92, 117]⟩ ++ ⟨[((⟨#[48, 49, 50, 51, 52, 53, 54, 55, 56, 57, 65, 66, 67, 68, 69, 70]⟩ : ByteArray)[d1]'b1), ((⟨#[48, 49, 50, 51, 52, 53, 54, 55, 56, 57, 65, 66, 67, 68, 69, 70]⟩ : ByteArray)[d2]'b2), ((⟨#[48, 49, 50, 51, 52, 53, 54, 55, 56, 57, 65, 66, 67, 68, 69, 70]⟩ : ByteArray)[d3]'b3), ((⟨#[48, 49, 50, 51, 52, 53, 54, 55, 56, 57, 65, 66, 67, 68, 69, 70]⟩ : ByteArray)[d4]'b4)].toArray⟩ : ByteArray) = ⟨[92, 117, hexD d1 true, hexD d2 true, hexD d3 true, hexD d4 true].toArray⟩ := by rw [f1, f2, f3, f4]; exact bytes_ext (by rw [ByteArray.data_append]; simp)
    have HRES := Lib.hid hres
    clear f1 f2 f3 f4 hres
    go_enter Tryz.func37, Tryz.ntmps37
    go_wp2_with fail
    go_still_tail 19, (by kernel_rfl)
    change wpList _ _ _ _ _ w.drew
    go_wp2_with fail
    go_ret
    exact ⟨congrArg (fun x => Ending.returned (Value.string x)) HRES.out, bel_drew (bel_alloc (Below.refl _ _) _)⟩
  | false =>
    have hconv : (convert 32 9 (.slice (some ⟨w.heap.size, 0, none⟩) 4 4)).run Tryz.prog ((w.alloc (.cells #[.int .u8 (((⟨#[48, 49, 50, 51, 52, 53, 54, 55, 56, 57, 97, 98, 99, 100, 101, 102]⟩ : ByteArray)[d1]'b1).toNat : Int), .int .u8 (((⟨#[48, 49, 50, 51, 52, 53, 54, 55, 56, 57, 97, 98, 99, 100, 101, 102]⟩ : ByteArray)[d2]'b2).toNat : Int), .int .u8 (((⟨#[48, 49, 50, 51, 52, 53, 54, 55, 56, 57, 97, 98, 99, 100, 101, 102]⟩ : ByteArray)[d3]'b3).toNat : Int), .int .u8 (((⟨#[48, 49, 50, 51, 52, 53, 54, 55, 56, 57, 97, 98, 99, 100, 101, 102]⟩ : ByteArray)[d4]'b4).toNat : Int)] 5)).drew) = .ok (.string ⟨[((⟨#[48, 49, 50, 51, 52, 53, 54, 55, 56, 57, 97, 98, 99, 100, 101, 102]⟩ : ByteArray)[d1]'b1), ((⟨#[48, 49, 50, 51, 52, 53, 54, 55, 56, 57, 97, 98, 99, 100, 101, 102]⟩ : ByteArray)[d2]'b2), ((⟨#[48, 49, 50, 51, 52, 53, 54, 55, 56, 57, 97, 98, 99, 100, 101, 102]⟩ : ByteArray)[d3]'b3), ((⟨#[48, 49, 50, 51, 52, 53, 54, 55, 56, 57, 97, 98, 99, 100, 101, 102]⟩ : ByteArray)[d4]'b4)].toArray⟩) ((w.alloc (.cells #[.int .u8 (((⟨#[48, 49, 50, 51, 52, 53, 54, 55, 56, 57, 97, 98, 99, 100, 101, 102]⟩ : ByteArray)[d1]'b1).toNat : Int), .int .u8 (((⟨#[48, 49, 50, 51, 52, 53, 54, 55, 56, 57, 97, 98, 99, 100, 101, 102]⟩ : ByteArray)[d2]'b2).toNat : Int), .int .u8 (((⟨#[48, 49, 50, 51, 52, 53, 54, 55, 56, 57, 97, 98, 99, 100, 101, 102]⟩ : ByteArray)[d3]'b3).toNat : Int), .int .u8 (((⟨#[48, 49, 50, 51, 52, 53, 54, 55, 56, 57, 97, 98, 99, 100, 101, 102]⟩ : ByteArray)[d4]'b4).toNat : Int)] 5)).drew) :=
      run_convert_bytes_back (P := Tryz.prog) ((w.alloc (.cells #[.int .u8 (((⟨#[48, 49, 50, 51, 52, 53, 54, 55, 56, 57, 97, 98, 99, 100, 101, 102]⟩ : ByteArray)[d1]'b1).toNat : Int), .int .u8 (((⟨#[48, 49, 50, 51, 52, 53, 54, 55, 56, 57, 97, 98, 99, 100, 101, 102]⟩ : ByteArray)[d2]'b2).toNat : Int), .int .u8 (((⟨#[48, 49, 50, 51, 52, 53, 54, 55, 56, 57, 97, 98, 99, 100, 101, 102]⟩ : ByteArray)[d3]'b3).toNat : Int), .int .u8 (((⟨#[48, 49, 50, 51, 52, 53, 54, 55, 56, 57, 97, 98, 99, 100, 101, 102]⟩ : ByteArray)[d4]'b4).toNat : Int)] 5)).drew) 32 9 5 ⟨w.heap.size, 0, none⟩ 4 [((⟨#[48, 49, 50, 51, 52, 53, 54, 55, 56, 57, 97, 98, 99, 100, 101, 102]⟩ : ByteArray)[d1]'b1), ((⟨#[48, 49, 50, 51, 52, 53, 54, 55, 56, 57, 97, 98, 99, 100, 101, 102]⟩ : ByteArray)[d2]'b2), ((⟨#[48, 49, 50, 51, 52, 53, 54, 55, 56, 57, 97, 98, 99, 100, 101, 102]⟩ : ByteArray)[d3]'b3), ((⟨#[48, 49, 50, 51, 52, 53, 54, 55, 56, 57, 97, 98, 99, 100, 101, 102]⟩ : ByteArray)[d4]'b4)] Tryz.underlying32 Tryz.underlying5 Tryz.underlying9 (fun j hj => by
        have hadd : (⟨w.heap.size, 0, none⟩ : Addr).add j = ⟨w.heap.size, j, none⟩ := by unfold Addr.add; split <;> simp_all
        rw [hadd]
        refine (cell_al_eq w _ _ _ j rfl).trans ?_
        simp only [List.length_cons, List.length_nil] at hj
        obtain rfl | rfl | rfl | rfl : j = 0 ∨ j = 1 ∨ j = 2 ∨ j = 3 := by omega
        all_goals rfl)
    have f1 := hex_low d1 b1
    have f2 := hex_low d2 b2
    have f3 := hex_low d3 b3
    have f4 := hex_low d4 b4
    have hres : (⟨#[92, 117]⟩ ++ ⟨[((⟨#[48, 49, 50, 51, 52, 53, 54, 55, 56, 57, 97, 98, 99, 100, 101, 102]⟩ : ByteArray)[d1]'b1), ((⟨#[48, 49, 50, 51, 52, 53, 54, 55, 56, 57, 97, 98, 99, 100, 101, 102]⟩ : ByteArray)[d2]'b2), ((⟨#[48, 49, 50, 51, 52, 53, 54, 55, 56, 57, 97, 98, 99, 100, 101, 102]⟩ : ByteArray)[d3]'b3), ((⟨#[48, 49, 50, 51, 52, 53, 54, 55, 56, 57, 97, 98, 99, 100, 101, 102]⟩ : ByteArray)[d4]'b4)].toArray⟩ : ByteArray) = ⟨[92, 117, hexD d1 false, hexD d2 false, hexD d3 false, hexD d4 false].toArray⟩ := by rw [f1, f2, f3, f4]; exact bytes_ext (by rw [ByteArray.data_append]; simp)
    have HRES := Lib.hid hres
    clear f1 f2 f3 f4 hres
    go_enter Tryz.func37, Tryz.ntmps37
    go_wp2_with fail
    go_still_tail 19, (by kernel_rfl)
    change wpList _ _ _ _ _ w.drew
    go_wp2_with fail
    go_ret
    exact ⟨congrArg (fun x => Ending.returned (Value.string x)) HRES.out, bel_drew (bel_alloc (Below.refl _ _) _)⟩
end

section
open Go.RowKit

theorem byteVs_app (l x : List UInt8) : byteVs (l ++ x) = byteVs l ++ Lib.strCells ⟨x.toArray⟩ := by simp [byteVs, Lib.strCells]
theorem OwnB.str {w2 : World} {B n g2 cap2 : Nat} {l : List UInt8} {x : List UInt8} (hl : n = l.length) (h2 : w2.ownsRow B 5 1 (.slice (some ⟨g2, 0, none⟩) (n + (⟨x.toArray⟩ : ByteArray).size) cap2) (n + (⟨x.toArray⟩ : ByteArray).size) (byteVs l ++ Lib.strCells ⟨x.toArray⟩)) : OwnB w2 B g2 (n + (⟨x.toArray⟩ : ByteArray).size) cap2 (l ++ x) :=
  ⟨by rw [hl, List.length_append]; rfl, by rw [byteVs_app]; exact h2⟩
theorem OwnB.kept {w w' : World} {B g n cap : Nat} {row : Option Nat} {l : List UInt8} (h : OwnB w B g n cap l) (hg : w.grownBy w' row) (hne : row ≠ some g) : OwnB w' B g n cap l :=
  ⟨h.1, World.ownsRow.kept h.2 hg (.inr fun e => hne (e.symm.trans rfl))⟩
theorem and_1023 (c : Nat) (hc : c < 1048576) : bits .and .i64 (c : Int) 1023 = ((c % 1024 : Nat) : Int) := by
  have hm : c % 1024 < 1024 := Nat.mod_lt _ (by decide)
  show IntKind.i64.wrap ((BitVec.ofInt 64 (c : Int) &&& BitVec.ofInt 64 ((1023 : Nat) : Int)).toNat : Int) = _
  have e1 : (BitVec.ofInt 64 (c : Int)).toNat = c := by rw [BitVec.ofInt_natCast, BitVec.toNat_ofNat]; exact Nat.mod_eq_of_lt (by omega)
  have e2 : (BitVec.ofInt 64 ((1023 : Nat) : Int)).toNat = 2 ^ 10 - 1 := by rw [BitVec.ofInt_natCast, BitVec.toNat_ofNat]
  rw [BitVec.toNat_and, e1, e2, Nat.and_two_pow_sub_one_eq_mod, IntKind.wrap_i64]
  omega
set_option maxRecDepth 100000 in
set_option maxHeartbeats 8000000 in
theorem spText_any {w : World} {r : Nat} {a : Option Addr} {how : List UInt8} {n : Nat} (h : SpAt w r a how n) (s : ByteArray) (hs : s.size ≤ 1000000) (hn : n + s.size ≤ 1000000000) (hw : writ s = true) :
    Calls Tryz.prog 22 #[.pointer (some ⟨r, 0, none⟩), .string s] w fun e w' => e = .returned (.string ⟨(quoteS how s n).1.toArray⟩) ∧ w.grownBy w' (some r) ∧ SpAt w' r a how (quoteS how s n).2 := by
  obtain ⟨i0, hi, hz0, hz1, hz2⟩ := info_parts infoUb
  obtain ⟨hru, hsb⟩ := runesB_writ hw
  have hrl : (runesB s).length ≤ s.size := runesGo_len s.size s.data.toList
  have hrlt : r < w.heap.size := by obtain ⟨l, c, hb, -⟩ := h.blk; exact hb.lt
  unfold quoteS
  obtain ⟨T, hT⟩ : ∃ T, textS how (runesB s) n = T := ⟨_, rfl⟩
  rw [hT]
  have H0 := Lib.hid h
  have HI := Lib.hid hi
  have HZ0 := Lib.hid hz0
  have HZ1 := Lib.hid hz1
  have HZ2 := Lib.hid hz2
  have HR := Lib.hid hru
  have HS := Lib.hid hsb
  have HT := Lib.hid hT
  clear hi hz0 hz1 hz2 h hru hsb hT hw
  go_enter Tryz.func22, Tryz.ntmps22
  go_wp2_with fail
  go_loopw [5, 6] (fun v i wr => ∃ (o g m cap cnt : Nat) (rs : List Int) (l : List UInt8), o ≤ s.size ∧ i = .int .i64 o ∧ v = .slice (some ⟨g, 0, none⟩) m cap ∧ w.heap.size ≤ g ∧ OwnB wr w.heap.size g m cap l ∧ s.data.toList.drop o = rs.flatMap encP ∧ (∀ x ∈ rs, isRune x) ∧ l ++ (textS how rs cnt).1 = 34 :: T.1 ∧ (textS how rs cnt).2 = T.2 ∧ cnt + rs.length ≤ n + s.size ∧ m + 12 * rs.length ≤ 12 * s.size + 1 ∧ w.grownBy wr (some r) ∧ SpAt wr r a how cnt) (fun _ i _ => s.size - (intOf i).toNat)
  case atStart => exact ⟨0, w.heap.size, 1, 1, n, runesB s, [34], by omega, rfl, rfl, Nat.le_refl _, own_first w 34, HS.out, HR.out, by rw [HT.out]; rfl, by rw [HT.out], by omega, by omega, grown_alloc (World.grownBy.refl _ _) _, H0.out.keep (bel_alloc (Below.refl _ _) _)⟩
  case round =>
    obtain ⟨o, g, m, cap, cnt, rs, l, ho, rfl, rfl, hgw, hO, hd, hrs, hl1, hl2, hc1, hm1, hgr, hsp⟩ := hrel
    have hown := hO.2
    have HO := Lib.hid hO
    have HD := Lib.hid hd
    have HRS := Lib.hid hrs
    have HL1 := Lib.hid hl1
    have HL2 := Lib.hid hl2
    have HG := Lib.hid hgr
    have HSP := Lib.hid hsp
    have hsz := hgr.size
    clear hO hd hrs hl1 hl2 hgr hsp
    by_cases hol : o < s.size
    · obtain ⟨x, rt, rfl⟩ : ∃ x rt, rs = x :: rt := by
        match rs, HD.out with
        | [], e => have := congrArg List.length e; rw [List.length_drop, size_len] at this; simp at this; omega
        | x :: rt, _ => exact ⟨x, rt, rfl⟩
      have hxr := HRS.out x (by simp)
      have hel := encP_len x
      obtain ⟨z, hz⟩ : ∃ z, (encP x).length = z := ⟨_, rfl⟩
      rw [hz] at hel
      have hdl : z + (rt.flatMap encP).length = s.size - o := by
        have := congrArg List.length HD.out
        rw [List.length_drop, size_len, List.flatMap_cons, List.length_append, hz] at this
        omega
      have hnp : nextP (s.data.toList.drop o) = (x, (z : Int), 0) := by
        rw [HD.out, List.flatMap_cons, next_enc x hxr, hz]
      have HNP := Lib.hid hnp
      clear hnp
      have hz1 : (1 : Int) ≤ (z : Int) := by omega
      have hx0 : (0 : Int) ≤ x := hxr.1
      have hx1 : x ≤ 1114111 := hxr.2.1
      have hj1 : (o : Int) < (s.size : Int) := by omega
      have hb := nextS_byte how cnt
      have hnn := nextS_n how cnt
      obtain ⟨k, hk⟩ : ∃ k, (nextS how cnt).1 = k := ⟨_, rfl⟩
      obtain ⟨cn, hcn⟩ : ∃ k, (nextS how cnt).2 = k := ⟨_, rfl⟩
      have hNX := spNext_any HSP.out (by simp only [List.length_cons] at hc1; omega)
      rw [hk, hcn] at hNX
      have HNX := Lib.hid hNX
      rw [hk] at hb
      rw [hcn] at hnn
      have hstep1 : textS how (x :: rt) cnt = (itemS x k ++ (textS how rt cn).1, (textS how rt cn).2) := by rw [textS, hk, hcn]
      have HST := Lib.hid hstep1
      have HK := Lib.hid hk
      have HCN := Lib.hid hcn
      have HDL := Lib.hid hdl
      have hstr : s.extract o (o + z) = ⟨(encP x).toArray⟩ := bytes_ext (by
        rw [show (s.extract o (o + z)).data.toList = (s.data.toList.drop o).take (o + z - o) from by rw [ByteArray.data_extract]; simp]
        rw [HD.out, List.flatMap_cons, Nat.add_sub_cancel_left, ← hz, List.take_left])
      have fin : ∀ (W : World) (g2 cap2 M : Nat) (y : List UInt8), itemS x k = y → M = m + y.length → OwnB W w.heap.size g2 M cap2 (l ++ y) → w.heap.size ≤ g2 → w.grownBy W (some r) → SpAt W r a how cn → ∃ (o1 g1 m1 cap1 cnt1 : Nat) (rs1 : List Int) (l1 : List UInt8), o1 ≤ s.size ∧ (Value.int .i64 ((o : Int) + z)) = .int .i64 o1 ∧ Value.slice (some ⟨g2, 0, none⟩) M cap2 = .slice (some ⟨g1, 0, none⟩) m1 cap1 ∧ w.heap.size ≤ g1 ∧ OwnB W w.heap.size g1 m1 cap1 l1 ∧ s.data.toList.drop o1 = rs1.flatMap encP ∧ (∀ x ∈ rs1, isRune x) ∧ l1 ++ (textS how rs1 cnt1).1 = 34 :: T.1 ∧ (textS how rs1 cnt1).2 = T.2 ∧ cnt1 + rs1.length ≤ n + s.size ∧ m1 + 12 * rs1.length ≤ 12 * s.size + 1 ∧ w.grownBy W (some r) ∧ SpAt W r a how cnt1 := by
        intro W g2 cap2 M y hy hM hO2 hg2 hgr2 hsp2
        have hil := itemS_len x k
        rw [hy] at hil
        simp only [List.length_cons] at hc1 hm1
        refine ⟨o + z, g2, M, cap2, cn, rt, l ++ y, by omega, by go_num, rfl, hg2, hO2, ?_, fun q hq => HRS.out q (by simp [hq]), ?_, ?_, by omega, by omega, hgr2, hsp2⟩
        · rw [← List.drop_drop, HD.out, List.flatMap_cons, ← hz, List.drop_left]
        · have := HL1.out
          rw [HST.out, hy] at this
          rw [List.append_assoc]
          exact this
        · have := HL2.out
          rw [HST.out] at this
          exact this
      have HFIN := Lib.hid fin
      have hes : (s.extract o (o + z)).size = z := by rw [ByteArray.size_extract]; omega
      have HSTR := Lib.hid hstr
      have hzo : z ≤ s.size - o := by omega
      simp only [List.length_cons] at hm1
      have hx2 := hxr.2.2
      have hit : itemS x k = if 32 ≤ x ∧ x ≠ 34 ∧ x ≠ 92 ∧ 0 < k % 3 then encP x else if 65535 < x then digS (55296 + (x.toNat - 65536) / 1024) (decide (k % 2 = 0)) ++ digS (56320 + (x.toNat - 65536) % 1024) (decide (k % 4 < 2)) else digS x.toNat (decide (k % 2 = 0)) := rfl
      have HIT := Lib.hid hit
      clear hNX hstep1 hk hcn hdl hxr fin hstr hit
      have hd1 : decide ((z : Int) < 1) = false := decide_eq_false (by omega)
      have hd2 : decide ((s.size : Int) - (o : Int) < (z : Int)) = false := decide_eq_false (by omega)
      have hd3 : ¬ ((s.size : Int) - (o : Int) < (z : Int)) := by omega
      have hmod3 : (k : Int).tmod 3 = ((k % 3 : Nat) : Int) := by rw [Int.tmod_eq_emod_of_nonneg (by omega)]; exact (Int.natCast_emod _ _).symm
      have hmod2 : (k : Int).tmod 2 = ((k % 2 : Nat) : Int) := by rw [Int.tmod_eq_emod_of_nonneg (by omega)]; exact (Int.natCast_emod _ _).symm
      have hmod4 : (k : Int).tmod 4 = ((k % 4 : Nat) : Int) := by rw [Int.tmod_eq_emod_of_nonneg (by omega)]; exact (Int.natCast_emod _ _).symm
      go_wp2_with (go_at_call 36; refine (utfNext_in s o _ (by omega) hol _ _ _ HNP).mono ?_)
      refine HNX.out.mono ?_
      rintro e w1 ⟨rfl, hg1, hs1⟩
      have hne : some r ≠ some g := fun e => by have := Option.some.inj e; omega
      have hO1 := HO.out.kept hg1 hne
      have hgr1 := HG.out.trans hg1
      have hown1 := hO1.2
      have hsz1 := hgr1.size
      have HO1 := Lib.hid hO1
      have HG1 := Lib.hid hgr1
      have HS1 := Lib.hid hs1
      clear hg1 hs1 hO1 hgr1 hown
      by_cases hplain : 32 ≤ x ∧ x ≠ 34 ∧ x ≠ 92 ∧ 0 < k % 3
      · obtain ⟨p1, p2, p3, p4⟩ := hplain
        have hite := HIT.out
        rw [if_pos ⟨p1, p2, p3, p4⟩] at hite
        have HITE := Lib.hid hite
        have b1 : (x == 34) = false := beq_eq_false_iff_ne.2 p2
        have b2 : (x == 92) = false := beq_eq_false_iff_ne.2 p3
        have b3 : (0 : Int) < ((k % 3 : Nat) : Int) := by omega
        have b4 : (x != 34) = true := by rw [bne, b1]; rfl
        have b5 : (x != 92) = true := by rw [bne, b2]; rfl
        have b6 : decide (x = 34) = false := decide_eq_false p2
        have b7 : decide (x = 92) = false := decide_eq_false p3
        clear hite p4
        go_wp2_with (at_builtin; refine Lib.wpList_append_own_string _ rfl _ _ 32 9 rfl w.heap.size 5 i0 Tryz.underlying32 Tryz.underlying9 HI.out HZ0.out HZ1.out HZ2.out _ _ _ rfl hown1 (s.extract o (o + z)) rfl ?c3 ?c4 ?c5 ?_)
        case c3 => rw [hes]; unfold maxLen; omega
        case c4 => rw [hes]; omega
        case c5 => exact hsz1
        intro v' w2 hown2 hgrow _
        obtain ⟨g2, cap2, rfl, hg2, -⟩ := World.ownsRow.form hown2 (by omega)
        have hO2 : OwnB w2 w.heap.size g2 (m + z) cap2 (l ++ encP x) := by
          rw [HSTR.out] at hown2
          exact ⟨by rw [List.length_append, hz, ← HO1.out.1], by rw [byteVs_app]; exact hown2⟩
        have HF := Lib.hid (HFIN.out _ _ _ _ _ HITE.out (by rw [hz]) hO2 hg2 (HG1.out.andThen hgrow (fun j hj => .inl (by have h5 : g = j := Option.some.inj hj; omega))) (SpAt.far H0.out HS1.out hsz1 hgrow hgw))
        clear hown2 hgrow hO2
        go_wp2_with fail
        exact ⟨HF.out, by simp [intOf]; omega⟩
      · by_cases hbig : 65535 < x
        · obtain ⟨y, rfl⟩ : ∃ y : Nat, x = (y : Int) := ⟨x.toNat, by omega⟩
          obtain ⟨q, hyq⟩ : ∃ q : Nat, y - 65536 = q := ⟨_, rfl⟩
          have hk3 : k % 3 = 0 := by omega
          have hite := HIT.out
          rw [if_neg hplain, if_pos hbig, Int.toNat_natCast, hyq] at hite
          have hsub : (y : Int) - 65536 = (q : Int) := by omega
          have hq : q < 1048576 := by omega
          obtain ⟨A, hA⟩ : ∃ A, 55296 + q / 1024 = A := ⟨_, rfl⟩
          obtain ⟨B, hB⟩ : ∃ B, 56320 + q % 1024 = B := ⟨_, rfl⟩
          rw [hA, hB] at hite
          have hAz : 55296 + (q : Int) / 1024 = (A : Int) := by omega
          have hand := and_1023 q hq
          obtain ⟨C, hC⟩ : ∃ C, q % 1024 = C := ⟨_, rfl⟩
          rw [hC] at hand hB
          have hC0 : C < 1024 := by omega
          have hBz : 56320 + (C : Int) = (B : Int) := by omega
          have hA1 : A < 65536 := by omega
          have hB1 : B < 65536 := by omega
          obtain ⟨bb, hbb⟩ : ∃ bb, decide (k % 2 = 0) = bb := ⟨_, rfl⟩
          obtain ⟨b4, hb4⟩ : ∃ bb, decide (k % 4 < 2) = bb := ⟨_, rfl⟩
          have hbe : (((k % 2 : Nat) : Int) == 0) = bb := by
            rw [← hbb]
            by_cases h : k % 2 = 0
            · rw [h]; rfl
            · rw [decide_eq_false h]; exact beq_eq_false_iff_ne.2 (by omega)
          have hbe4 : decide (((k % 4 : Nat) : Int) < 2) = b4 := by
            rw [← hb4]
            exact decide_eq_decide.2 (by omega)
          obtain ⟨q2, hq2⟩ : ∃ q2, k % 2 = q2 := ⟨_, rfl⟩
          obtain ⟨q4, hq4⟩ : ∃ q4, k % 4 = q4 := ⟨_, rfl⟩
          rw [hq2] at hmod2 hbe
          rw [hq4] at hmod4 hbe4
          rw [hk3] at hmod3
          obtain ⟨D, hD⟩ : ∃ D, digS A bb = D := ⟨_, rfl⟩
          obtain ⟨E, hE⟩ : ∃ D, digS B b4 = D := ⟨_, rfl⟩
          have hDl : D.length = 6 := by rw [← hD]; rfl
          have hEl : E.length = 6 := by rw [← hE]; rfl
          have hDs : (⟨D.toArray⟩ : ByteArray).size = 6 := hDl
          have hEs : (⟨E.toArray⟩ : ByteArray).size = 6 := hEl
          have hdig := fun w => spDigits_any A hA1 bb w
          have hdig2 := fun w => spDigits_any B hB1 b4 w
          rw [hbb, hD, hb4, hE] at hite
          rw [hD] at hdig
          rw [hE] at hdig2
          have HITE := Lib.hid hite
          have HDG := Lib.hid hdig
          have HEG := Lib.hid hdig2
          have e1 : decide (65535 < (y : Int)) = true := decide_eq_true hbig
          have b1 : ((y : Int) == 34) = false := beq_eq_false_iff_ne.2 (by omega)
          have b2 : ((y : Int) == 92) = false := beq_eq_false_iff_ne.2 (by omega)
          have b1' : (y : Int) ≠ 34 := by omega
          have b2' : (y : Int) ≠ 92 := by omega
          have c1 : 32 ≤ (y : Int) := by omega
          clear hite hplain hdig hdig2 hbb hb4 hq2 hq4 hD hE hA hB hC hyq hk3
          go_wp2_with fail
          refine (HDG.out _).mono ?_
          rintro e w3 ⟨rfl, hb3⟩
          have hsz3 := hb3.size
          have hown3 := (HO1.out.kept (grown_of hb3 none) (by simp)).2
          have HS3 := Lib.hid (HS1.out.keep hb3)
          have HG3 := Lib.hid (HG1.out.trans (grown_of hb3 (some r)))
          clear hb3 hown1
          go_wp2_with (at_builtin; refine Lib.wpList_append_own_string _ rfl _ _ 32 9 rfl w.heap.size 5 i0 Tryz.underlying32 Tryz.underlying9 HI.out HZ0.out HZ1.out HZ2.out _ _ _ rfl hown3 ⟨D.toArray⟩ rfl ?c3 ?c4 ?c5 ?_)
          case c3 => rw [hDs]; unfold maxLen; omega
          case c4 => rw [hDs]; omega
          case c5 => omega
          intro v' w2 hown2 hgrow _
          obtain ⟨g2, cap2, rfl, hg2, -⟩ := World.ownsRow.form hown2 (by omega)
          have hO2 : OwnB w2 w.heap.size g2 (m + 6) cap2 (l ++ D) := ⟨by rw [List.length_append, hDl, ← HO1.out.1], by rw [byteVs_app]; exact hown2⟩
          have HO2 := Lib.hid hO2
          have hgr2 := HG3.out.andThen hgrow (fun j hj => .inl (by have h5 : g = j := Option.some.inj hj; omega))
          have hsz2 := hgr2.size
          have HG2 := Lib.hid hgr2
          have HS2 := Lib.hid (SpAt.far H0.out HS3.out (by omega) hgrow hgw)
          clear hown2 hown3 hgrow hO2 hgr2
          go_wp2_with fail
          refine (HEG.out _).mono ?_
          rintro e w4 ⟨rfl, hb4⟩
          have hsz4 := hb4.size
          have hown4 := (HO2.out.kept (grown_of hb4 none) (by simp)).2
          have HS4 := Lib.hid (HS2.out.keep hb4)
          have HG4 := Lib.hid (HG2.out.trans (grown_of hb4 (some r)))
          clear hb4
          go_wp2_with (at_builtin; refine Lib.wpList_append_own_string _ rfl _ _ 32 9 rfl w.heap.size 5 i0 Tryz.underlying32 Tryz.underlying9 HI.out HZ0.out HZ1.out HZ2.out _ _ _ rfl hown4 ⟨E.toArray⟩ rfl ?d3 ?d4 ?d5 ?_)
          case d3 => rw [hEs]; unfold maxLen; omega
          case d4 => rw [hEs]; omega
          case d5 => omega
          intro v' w5 hown5 hgrow5 _
          obtain ⟨g5, cap5, rfl, hg5, -⟩ := World.ownsRow.form hown5 (by omega)
          have hO5 : OwnB w5 w.heap.size g5 (m + 6 + 6) cap5 (l ++ (D ++ E)) := ⟨by rw [List.length_append, List.length_append, hDl, hEl, ← HO1.out.1], by rw [← List.append_assoc, byteVs_app (l ++ D)]; exact hown5⟩
          have HF := Lib.hid (HFIN.out _ _ _ _ _ HITE.out (by rw [List.length_append, hDl, hEl]) hO5 hg5 (HG4.out.andThen hgrow5 (fun j hj => .inl (by have h5 : g2 = j := Option.some.inj hj; omega))) (SpAt.far H0.out HS4.out (by omega) hgrow5 hg2))
          clear hown5 hgrow5 hO5
          go_wp2_with fail
          exact ⟨HF.out, by simp [intOf]; omega⟩
        · obtain ⟨q, rfl⟩ : ∃ q : Nat, x = (q : Int) := ⟨x.toNat, by omega⟩
          have hcs : (q : Int) < 32 ∨ (32 ≤ (q : Int) ∧ (q : Int) = 34) ∨ (32 ≤ (q : Int) ∧ (q : Int) ≠ 34 ∧ (q : Int) = 92) ∨ (32 ≤ (q : Int) ∧ (q : Int) ≠ 34 ∧ (q : Int) ≠ 92 ∧ k % 3 = 0) := by omega
          have hite := HIT.out
          rw [if_neg hplain, if_neg hbig, Int.toNat_natCast] at hite
          have hq : q < 65536 := by omega
          have hdb : decide (65535 < (q : Int)) = false := decide_eq_false hbig
          obtain ⟨bb, hbb⟩ : ∃ bb, decide (k % 2 = 0) = bb := ⟨_, rfl⟩
          have hbe : (((k % 2 : Nat) : Int) == 0) = bb := by
            rw [← hbb]
            by_cases h : k % 2 = 0
            · rw [h]; rfl
            · rw [decide_eq_false h]; exact beq_eq_false_iff_ne.2 (by omega)
          obtain ⟨q2, hq2⟩ : ∃ q2, k % 2 = q2 := ⟨_, rfl⟩
          obtain ⟨q3, hq3⟩ : ∃ q3, k % 3 = q3 := ⟨_, rfl⟩
          rw [hq2] at hmod2 hbe
          rw [hq3] at hmod3 hcs
          obtain ⟨D, hD⟩ : ∃ D, digS q bb = D := ⟨_, rfl⟩
          have hDl : D.length = 6 := by rw [← hD]; rfl
          have hDs : (⟨D.toArray⟩ : ByteArray).size = 6 := hDl
          have hdig := fun w => spDigits_any q hq bb w
          rw [hbb, hD] at hite
          rw [hD] at hdig
          have HITE := Lib.hid hite
          have HDG := Lib.hid hdig
          clear hite hplain hdig hbb hq2 hq3 hmod4 hD
          have hcb : Hid (q ≤ 65535) ∧ ((q : Int) < 32 ∨ (32 ≤ (q : Int) ∧ q = 34) ∨ (32 ≤ (q : Int) ∧ (q : Int) ≠ 34 ∧ q = 92) ∨ (32 ≤ (q : Int) ∧ (q : Int) ≠ 34 ∧ (q : Int) ≠ 92 ∧ q3 = 0)) := ⟨Lib.hid (by omega), by omega⟩
          clear hcs
          obtain ⟨-, hcs⟩ := hcb
          rcases hcs with c1 | ⟨c1, c2⟩ | ⟨c1, c2, c3⟩ | ⟨c1, c2, c3, c4⟩
          · have e1 : decide (32 ≤ (q : Int)) = false := decide_eq_false (by omega)
            go_wp2_with fail
            refine (HDG.out _).mono ?_
            rintro e w3 ⟨rfl, hb3⟩
            have hsz3 := hb3.size
            have hown3 := (HO1.out.kept (grown_of hb3 none) (by simp)).2
            have HS3 := Lib.hid (HS1.out.keep hb3)
            have HG3 := Lib.hid (HG1.out.trans (grown_of hb3 (some r)))
            clear hb3 hown1
            go_wp2_with (at_builtin; refine Lib.wpList_append_own_string _ rfl _ _ 32 9 rfl w.heap.size 5 i0 Tryz.underlying32 Tryz.underlying9 HI.out HZ0.out HZ1.out HZ2.out _ _ _ rfl hown3 ⟨D.toArray⟩ rfl ?c3 ?c4 ?c5 ?_)
            case c3 => rw [hDs]; unfold maxLen; omega
            case c4 => rw [hDs]; omega
            case c5 => omega
            intro v' w2 hown2 hgrow _
            obtain ⟨g2, cap2, rfl, hg2, -⟩ := World.ownsRow.form hown2 (by omega)
            have hO2 : OwnB w2 w.heap.size g2 (m + 6) cap2 (l ++ D) := by
              exact ⟨by rw [List.length_append, hDl, ← HO1.out.1], by rw [byteVs_app]; exact hown2⟩
            have HF := Lib.hid (HFIN.out _ _ _ _ _ HITE.out (by rw [hDl]) hO2 hg2 (HG3.out.andThen hgrow (fun j hj => .inl (by have h5 : g = j := Option.some.inj hj; omega))) (SpAt.far H0.out HS3.out (by omega) hgrow hgw))
            clear hown2 hgrow hO2
            go_wp2_with fail
            exact ⟨HF.out, by simp [intOf]; omega⟩
          · subst c2
            go_wp2_with fail
            refine (HDG.out _).mono ?_
            rintro e w3 ⟨rfl, hb3⟩
            have hsz3 := hb3.size
            have hown3 := (HO1.out.kept (grown_of hb3 none) (by simp)).2
            have HS3 := Lib.hid (HS1.out.keep hb3)
            have HG3 := Lib.hid (HG1.out.trans (grown_of hb3 (some r)))
            clear hb3 hown1
            go_wp2_with (at_builtin; refine Lib.wpList_append_own_string _ rfl _ _ 32 9 rfl w.heap.size 5 i0 Tryz.underlying32 Tryz.underlying9 HI.out HZ0.out HZ1.out HZ2.out _ _ _ rfl hown3 ⟨D.toArray⟩ rfl ?c3 ?c4 ?c5 ?_)
            case c3 => rw [hDs]; unfold maxLen; omega
            case c4 => rw [hDs]; omega
            case c5 => omega
            intro v' w2 hown2 hgrow _
            obtain ⟨g2, cap2, rfl, hg2, -⟩ := World.ownsRow.form hown2 (by omega)
            have hO2 : OwnB w2 w.heap.size g2 (m + 6) cap2 (l ++ D) := by
              exact ⟨by rw [List.length_append, hDl, ← HO1.out.1], by rw [byteVs_app]; exact hown2⟩
            have HF := Lib.hid (HFIN.out _ _ _ _ _ HITE.out (by rw [hDl]) hO2 hg2 (HG3.out.andThen hgrow (fun j hj => .inl (by have h5 : g = j := Option.some.inj hj; omega))) (SpAt.far H0.out HS3.out (by omega) hgrow hgw))
            clear hown2 hgrow hO2
            go_wp2_with fail
            exact ⟨HF.out, by simp [intOf]; omega⟩
          · subst c3
            go_wp2_with fail
            refine (HDG.out _).mono ?_
            rintro e w3 ⟨rfl, hb3⟩
            have hsz3 := hb3.size
            have hown3 := (HO1.out.kept (grown_of hb3 none) (by simp)).2
            have HS3 := Lib.hid (HS1.out.keep hb3)
            have HG3 := Lib.hid (HG1.out.trans (grown_of hb3 (some r)))
            clear hb3 hown1
            go_wp2_with (at_builtin; refine Lib.wpList_append_own_string _ rfl _ _ 32 9 rfl w.heap.size 5 i0 Tryz.underlying32 Tryz.underlying9 HI.out HZ0.out HZ1.out HZ2.out _ _ _ rfl hown3 ⟨D.toArray⟩ rfl ?c3 ?c4 ?c5 ?_)
            case c3 => rw [hDs]; unfold maxLen; omega
            case c4 => rw [hDs]; omega
            case c5 => omega
            intro v' w2 hown2 hgrow _
            obtain ⟨g2, cap2, rfl, hg2, -⟩ := World.ownsRow.form hown2 (by omega)
            have hO2 : OwnB w2 w.heap.size g2 (m + 6) cap2 (l ++ D) := by
              exact ⟨by rw [List.length_append, hDl, ← HO1.out.1], by rw [byteVs_app]; exact hown2⟩
            have HF := Lib.hid (HFIN.out _ _ _ _ _ HITE.out (by rw [hDl]) hO2 hg2 (HG3.out.andThen hgrow (fun j hj => .inl (by have h5 : g = j := Option.some.inj hj; omega))) (SpAt.far H0.out HS3.out (by omega) hgrow hgw))
            clear hown2 hgrow hO2
            go_wp2_with fail
            exact ⟨HF.out, by simp [intOf]; omega⟩
          · subst c4
            have b1 : ((q : Int) == 34) = false := beq_eq_false_iff_ne.2 c2
            have b2 : ((q : Int) == 92) = false := beq_eq_false_iff_ne.2 c3
            go_wp2_with fail
            refine (HDG.out _).mono ?_
            rintro e w3 ⟨rfl, hb3⟩
            have hsz3 := hb3.size
            have hown3 := (HO1.out.kept (grown_of hb3 none) (by simp)).2
            have HS3 := Lib.hid (HS1.out.keep hb3)
            have HG3 := Lib.hid (HG1.out.trans (grown_of hb3 (some r)))
            clear hb3 hown1
            go_wp2_with (at_builtin; refine Lib.wpList_append_own_string _ rfl _ _ 32 9 rfl w.heap.size 5 i0 Tryz.underlying32 Tryz.underlying9 HI.out HZ0.out HZ1.out HZ2.out _ _ _ rfl hown3 ⟨D.toArray⟩ rfl ?c3 ?c4 ?c5 ?_)
            case c3 => rw [hDs]; unfold maxLen; omega
            case c4 => rw [hDs]; omega
            case c5 => omega
            intro v' w2 hown2 hgrow _
            obtain ⟨g2, cap2, rfl, hg2, -⟩ := World.ownsRow.form hown2 (by omega)
            have hO2 : OwnB w2 w.heap.size g2 (m + 6) cap2 (l ++ D) := by
              exact ⟨by rw [List.length_append, hDl, ← HO1.out.1], by rw [byteVs_app]; exact hown2⟩
            have HF := Lib.hid (HFIN.out _ _ _ _ _ HITE.out (by rw [hDl]) hO2 hg2 (HG3.out.andThen hgrow (fun j hj => .inl (by have h5 : g = j := Option.some.inj hj; omega))) (SpAt.far H0.out HS3.out (by omega) hgrow hgw))
            clear hown2 hgrow hO2
            go_wp2_with fail
            exact ⟨HF.out, by simp [intOf]; omega⟩
    · obtain rfl : rs = [] := by
        match rs, HD.out with
        | [], _ => rfl
        | x :: rt, e =>
          have h1 := congrArg List.length e
          rw [List.length_drop, size_len, List.flatMap_cons, List.length_append] at h1
          have := (encP_len x).1
          omega
      have hl : l = 34 :: T.1 := by
        have := HL1.out
        rw [textS, List.append_nil] at this
        exact this
      have hT2 : cnt = T.2 := HL2.out
      have HLL := Lib.hid hl
      have HT2 := Lib.hid hT2
      simp only [List.length_nil] at hm1
      clear hl hT2
      go_wp2_with (at_builtin; refine wpList_append_lies _ rfl _ _ 32 rfl w.heap.size 5 i0 (.int .u8 0) 1 1 Tryz.underlying32 HI.out HZ0.out HZ1.out HZ2.out rfl (by decide) _ _ _ rfl (hown.alloc _) ⟨wr.heap.size, 0, none⟩ 1 1 [.int .u8 34] rfl rfl (one_news _ _) (one_cell _) (by decide) ?c3 ?c4 ?c5 (wr.heap.size + 1) (by simp) ?_)
      case c3 => unfold maxLen; omega
      case c4 => omega
      case c5 => simp; omega
      intro g2 cap2 w2 hown2 hgrow hat hlt
      have hO2 : OwnB w2 w.heap.size g2 (m + 1) cap2 (l ++ [34]) := HO.out.more (c := 34) hown2
      have hcv := hO2.conv
      have hg2 := (grown_alloc HG.out _).andThen hgrow (fun j hj => .inl (by have h5 : g = j := Option.some.inj hj; omega))
      have hs2 := SpAt.far H0.out (HSP.out.keep (bel_alloc (Below.refl _ _) _)) (by rw [size_al]; omega) hgrow hgw
      have HG2 := Lib.hid hg2
      have HS2 := Lib.hid hs2
      clear hown2 hgrow hat hg2 hs2 hO2
      go_wp2_with fail
      go_ret
      exact ⟨by rw [HLL.out]; rfl, HG2.out, by rw [← HT2.out]; exact HS2.out⟩
end

section
open Go.RowKit

theorem digitOf_nat (m : Int) : (digitOf m).toNat = 48 + m.natAbs % 10 := by
  unfold digitOf
  rw [UInt8.toNat_ofNat']
  exact Nat.mod_eq_of_lt (by omega)
theorem mod_two (m : Int) : ∃ q : Nat, q < 10 ∧ (digitOf m).toNat = 48 + q ∧ (m.tmod 10 = (q : Int) ∨ (m.tmod 10 = -(q : Int) ∧ 0 < q)) := by
  refine ⟨m.natAbs % 10, by omega, digitOf_nat m, ?_⟩
  rcases tmod_abs m with ⟨_, h, _⟩ | ⟨_, h, _⟩ <;> rw [h] <;> omega
/-- Where the byte comes from when i pairs have been exchanged. -/
def idxR (i n k : Nat) : Nat := if k < i ∨ n - i ≤ k then n - 1 - k else k
def RevAt (L : List UInt8) (i n : Nat) (cur : Array Value) : Prop := n ≤ cur.size ∧ ∀ k, k < n → cur[k]? = some (.int .u8 ((L.getD (idxR i n k) 0).toNat : Int))
theorem RevAt.step {L : List UInt8} {i n : Nat} {cur : Array Value} (h : RevAt L i n cur) (hi : i + i + 1 < n) :
    RevAt L (i + 1) n ((cur.setIfInBounds i (.int .u8 ((L.getD (n - 1 - i) 0).toNat : Int))).setIfInBounds (n - 1 - i) (.int .u8 ((L.getD i 0).toNat : Int))) := by
  refine ⟨by simpa using h.1, fun k hk => ?_⟩
  have hs := h.1
  rw [Array.getElem?_setIfInBounds]
  split
  · next e =>
    subst e
    rw [if_pos (by simp; omega), idxR, if_pos (by omega), show n - 1 - (n - 1 - i) = i by omega]
  · next e =>
    rw [Array.getElem?_setIfInBounds]
    split
    · next e2 =>
      subst e2
      rw [if_pos (by omega), idxR, if_pos (by omega)]
    · next e2 =>
      rw [h.2 k hk]
      unfold idxR
      by_cases c : k < i ∨ n - i ≤ k
      · rw [if_pos c, if_pos (by omega)]
      · rw [if_neg c, if_neg (by omega)]
theorem RevAt.first {L : List UInt8} {cur : Array Value} {n : Nat} (hn : n = L.length) (hs : n ≤ cur.size) (h : cur.toList.take n = byteVs L) : RevAt L 0 n cur := by
  refine ⟨hs, fun k hk => ?_⟩
  have h1 : (cur.toList.take n)[k]? = (byteVs L)[k]? := by rw [h]
  rw [List.getElem?_take_of_lt hk, Array.getElem?_toList] at h1
  rw [h1, idxR, if_neg (by omega), byteVs, List.getElem?_map, List.getD_eq_getElem?_getD, List.getElem?_eq_getElem (by omega)]
  rfl
theorem RevAt.last {L : List UInt8} {i n : Nat} {cur : Array Value} (h : RevAt L i n cur) (hn : n = L.length) (hi : n ≤ i + i + 1) (hi2 : i + i ≤ n) : ∀ k, k < n → cur[k]? = some (.int .u8 ((L.reverse.getD k 0).toNat : Int)) := by
  intro k hk
  have e : L.reverse.getD k 0 = L.getD (n - 1 - k) 0 := by
    rw [List.getD_eq_getElem?_getD, List.getD_eq_getElem?_getD, List.getElem?_reverse (by omega), hn]
  rw [h.2 k hk, e]
  unfold idxR
  by_cases c : k < i ∨ n - i ≤ k
  · rw [if_pos c]
  · rw [if_neg c, show n - 1 - k = k by omega]
set_option maxRecDepth 100000 in
set_option maxHeartbeats 8000000 in
theorem spNumber_any (N : Int) (h0 : -9223372036854775808 ≤ N) (h1 : N ≤ 9223372036854775807) (w : World) :
    Calls Tryz.prog 21 #[.int .i64 N] w fun e w' => e = .returned (.string ⟨(Lib.itoa N).toArray⟩) ∧ Below w.heap.size w w' := by
  obtain ⟨i0, hi, hz0, hz1, hz2⟩ := info_parts infoUb
  by_cases hN : N = 0
  · subst hN
    go_enter Tryz.func21, Tryz.ntmps21
    go_wp2_with fail
    go_ret
    exact ⟨by rw [show Lib.itoa 0 = [48] from by rw [Lib.itoa]; simp [Lib.decDigits]]; rfl, Below.refl _ _⟩
  have hNb : (N == 0) = false := beq_eq_false_iff_ne.2 hN
  have HI := Lib.hid hi
  have HZ0 := Lib.hid hz0
  have HZ1 := Lib.hid hz1
  have HZ2 := Lib.hid hz2
  clear hi hz0 hz1 hz2
  go_enter Tryz.func21, Tryz.ntmps21
  go_wp2_with fail
  go_loopw [3, 4] (fun v i wr => ∃ (m : Int) (u : List UInt8), i = .int .i64 m ∧ -9223372036854775808 ≤ m ∧ m ≤ 9223372036854775807 ∧ ShowInv N m u ∧ wr.ownsRow w.heap.size 5 1 v u.length (byteVs u.reverse) ∧ Below w.heap.size w wr) (fun _ i _ => (intOf i).natAbs)
  case atStart => exact ⟨N, [], rfl, h0, h1, ⟨by omega, by omega, Or.inl ⟨rfl, rfl⟩⟩, World.ownsRow_nil _ _ _ _, Below.refl _ _⟩
  case round =>
    obtain ⟨m, u, rfl, hm0, hm1, hinv, hown, hB⟩ := hrel
    have hs := hB.size
    have hu := showInv_len h0 h1 hinv
    obtain ⟨b1, b2, b3⟩ := tdiv_bd hm0 hm1
    have HIV := Lib.hid hinv
    clear hinv
    by_cases hm : m = 0
    · subst hm
      have hune : u ≠ [] := fun e => by
        subst e
        rcases HIV.out.2.2 with ⟨-, h⟩ | ⟨h, -⟩
        · exact hN h.symm
        · exact h rfl
      have hit := showInv_end HIV.out hune rfl
      have hul : 0 < u.length := List.length_pos_iff.2 hune
      have hm0b : ((0 : Int) == 0) = true := rfl
      by_cases hneg : N < 0
      · rw [if_pos hneg] at hit
        have HIT := Lib.hid hit
        clear hit hune
        go_wp2_with (at_builtin; refine wpList_append_lies _ rfl _ _ 32 rfl w.heap.size 5 i0 (.int .u8 0) 1 1 Tryz.underlying32 HI.out HZ0.out HZ1.out HZ2.out rfl (by decide) _ _ _ rfl (hown.alloc _) ⟨wr.heap.size, 0, none⟩ 1 1 [.int .u8 45] rfl rfl (one_news _ _) (one_cell _) (by decide) ?c3 ?c4 ?c5 (wr.heap.size + 1) (by simp) ?_)
        case c3 => unfold maxLen; omega
        case c4 => omega
        case c5 => simp; omega
        intro g2 cap2 wL hown2 hgrow hat hlt
        have hBL : Below w.heap.size w wL := (bel_alloc hB _).grown hgrow (by rw [size_al]; omega) (fun k hk => (World.ownsRow.lt hown k hk).1)
        obtain ⟨L, hL⟩ : ∃ L, (45 :: u).reverse = L := ⟨_, rfl⟩
        obtain ⟨n, hn⟩ : ∃ n, u.length + 1 = n := ⟨_, rfl⟩
        have hLl : n = L.length := by rw [← hL, ← hn]; simp
        have hLR : L.reverse = Lib.itoa N := by rw [← hL, List.reverse_reverse, HIT.out]
        have HLR := Lib.hid hLR
        rw [hn] at hown2
        have hownL : wL.ownsRow w.heap.size 5 1 (.slice (some ⟨g2, 0, none⟩) n cap2) n (byteVs L) := by
          rw [← hL, List.reverse_cons, byteVs_snoc]
          exact hown2
        rw [hn]
        have hn1 : 1 ≤ n := by omega
        have hn2 : n ≤ 21 := by omega
        clear hown2 hgrow hat hown hL hLR hn
        have hgw : w.heap.size ≤ g2 := (World.ownsRow.lt hownL g2 rfl).1
        obtain ⟨cur, hblk, hncap, hsz, htk⟩ : ∃ cur, BlkAt wL g2 5 cur ∧ n ≤ cap2 ∧ cur.size = cap2 ∧ cur.toList.take n = byteVs L := by
          rcases hownL.2 with ⟨h, -⟩ | ⟨g1, c1, cur, h, -, hb, hc, -, h5, h6⟩
          · cases h
          · cases h
            exact ⟨cur, hb, hc, by omega, by rw [Nat.mul_one] at h6; exact h6⟩
        have hrev := RevAt.first hLl (by omega) htk
        have HLL := Lib.hid hLl
        clear hownL htk hLl
        go_wp2_with fail
        go_loopw [6, 7] (fun iv jv wr => ∃ (i j : Nat) (cur : Array Value), i + j + 1 = n ∧ i + i ≤ n ∧ iv = .int .i64 i ∧ jv = .int .i64 j ∧ RevAt L i n cur ∧ cur.size = cap2 ∧ BlkAt wr g2 5 cur ∧ Below w.heap.size w wr) (fun iv _ _ => n - (intOf iv).toNat)
        case atStart => exact ⟨0, n - 1, cur, by omega, by omega, rfl, by go_num, hrev, hsz, hblk, hBL⟩
        case round =>
          clear hrev hblk hBL hsz
          obtain ⟨i, j, cur2, hij, hii, rfl, rfl, hrev, hsz, hblk, hBr⟩ := hrel
          have HREV := Lib.hid hrev
          have HBr := Lib.hid hBr
          by_cases hlt2 : i < j
          · have ci := hblk.cell i
            have cj := hblk.cell j
            rw [hrev.2 i (by omega), idxR, if_neg (by omega)] at ci
            rw [hrev.2 j (by omega), idxR, if_neg (by omega)] at cj
            have fi := hblk.free i
            have fj := hblk.free j
            have hnj : n - 1 - i = j := by omega
            have hst0 := hrev.step (i := i) (by omega)
            obtain ⟨xi, hxi⟩ : ∃ x, L.getD i 0 = x := ⟨_, rfl⟩
            obtain ⟨xj, hxj⟩ : ∃ x, L.getD j 0 = x := ⟨_, rfl⟩
            rw [hxi] at ci
            rw [hxj] at cj
            rw [hnj, hxi, hxj] at hst0
            have hst := Lib.hid hst0
            have HB := Lib.hid hblk
            have bi := u8_lt xi
            have bj := u8_lt xj
            have hi1 : (i : Int) < (n : Int) := by omega
            have hj1 : (j : Int) < (n : Int) := by omega
            have hij2 : (i : Int) < (j : Int) := by omega
            clear hrev hblk hBr hnj hxi hxj hst0
            go_wp2_with fail
            go_region
            all_goals go_wp2_with fail
            refine ⟨⟨i + 1, j - 1, _, by omega, by omega, by go_num, by go_num, hst.out, by simp [hsz], BlkAt.set (BlkAt.set HB.out i _) j _, bel_drew ((HBr.out.setCell (p := ⟨g2, i, none⟩) hgw _).setCell (p := ⟨g2, j, none⟩) hgw _)⟩, ?_⟩
            simp [intOf]
            omega
          · have hlast := hrev.last HLL.out (by omega) (by omega)
            have hRl : n = L.reverse.length := by rw [List.length_reverse]; exact HLL.out
            have hconv : (convert 32 9 (.slice (some ⟨g2, 0, none⟩) n cap2)).run Tryz.prog wr = .ok (.string ⟨L.reverse.toArray⟩) wr := by
              have := run_convert_bytes_back (P := Tryz.prog) wr 32 9 5 ⟨g2, 0, none⟩ cap2 L.reverse Tryz.underlying32 Tryz.underlying5 Tryz.underlying9 fun k hk => by
                have hadd : (⟨g2, 0, none⟩ : Addr).add k = ⟨g2, k, none⟩ := by unfold Addr.add; split <;> simp_all
                rw [hadd, hblk.cell k, hlast k (by omega), List.getD_eq_getElem?_getD, List.getElem?_eq_getElem hk]
                rfl
              rw [← hRl] at this
              exact this
            clear hlast hrev hblk hBr hRl
            go_wp2_with fail
            go_ret
            exact ⟨by rw [HLR.out]; rfl, HBr.out⟩
      · rw [if_neg hneg] at hit
        have HIT := Lib.hid hit
        clear hit hune
        have hnegb : decide (N < 0) = false := decide_eq_false hneg
        obtain ⟨g2, cap2, rfl, hg2, -⟩ := World.ownsRow.form hown hul
        obtain ⟨L, hL⟩ : ∃ L, u.reverse = L := ⟨_, rfl⟩
        obtain ⟨n, hn⟩ : ∃ n, u.length = n := ⟨_, rfl⟩
        have hLl : n = L.length := by rw [← hL, ← hn]; simp
        have hLR : L.reverse = Lib.itoa N := by rw [← hL, List.reverse_reverse, HIT.out]
        have HLR := Lib.hid hLR
        have hBL := hB
        rw [hn, hL] at hown
        have hownL := hown
        rw [hn]
        have hn1 : 1 ≤ n := by omega
        have hn2 : n ≤ 21 := by omega
        clear hown hL hLR hn
        have hgw : w.heap.size ≤ g2 := (World.ownsRow.lt hownL g2 rfl).1
        obtain ⟨cur, hblk, hncap, hsz, htk⟩ : ∃ cur, BlkAt wr g2 5 cur ∧ n ≤ cap2 ∧ cur.size = cap2 ∧ cur.toList.take n = byteVs L := by
          rcases hownL.2 with ⟨h, -⟩ | ⟨g1, c1, cur, h, -, hb, hc, -, h5, h6⟩
          · cases h
          · cases h
            exact ⟨cur, hb, hc, by omega, by rw [Nat.mul_one] at h6; exact h6⟩
        have hrev := RevAt.first hLl (by omega) htk
        have HLL := Lib.hid hLl
        clear hownL htk hLl
        go_wp2_with fail
        go_loopw [6, 7] (fun iv jv wr => ∃ (i j : Nat) (cur : Array Value), i + j + 1 = n ∧ i + i ≤ n ∧ iv = .int .i64 i ∧ jv = .int .i64 j ∧ RevAt L i n cur ∧ cur.size = cap2 ∧ BlkAt wr g2 5 cur ∧ Below w.heap.size w wr) (fun iv _ _ => n - (intOf iv).toNat)
        case atStart => exact ⟨0, n - 1, cur, by omega, by omega, rfl, by go_num, hrev, hsz, hblk, hBL⟩
        case round =>
          clear hrev hblk hBL hsz
          obtain ⟨i, j, cur2, hij, hii, rfl, rfl, hrev, hsz, hblk, hBr⟩ := hrel
          have HREV := Lib.hid hrev
          have HBr := Lib.hid hBr
          by_cases hlt2 : i < j
          · have ci := hblk.cell i
            have cj := hblk.cell j
            rw [hrev.2 i (by omega), idxR, if_neg (by omega)] at ci
            rw [hrev.2 j (by omega), idxR, if_neg (by omega)] at cj
            have fi := hblk.free i
            have fj := hblk.free j
            have hnj : n - 1 - i = j := by omega
            have hst0 := hrev.step (i := i) (by omega)
            obtain ⟨xi, hxi⟩ : ∃ x, L.getD i 0 = x := ⟨_, rfl⟩
            obtain ⟨xj, hxj⟩ : ∃ x, L.getD j 0 = x := ⟨_, rfl⟩
            rw [hxi] at ci
            rw [hxj] at cj
            rw [hnj, hxi, hxj] at hst0
            have hst := Lib.hid hst0
            have HB := Lib.hid hblk
            have bi := u8_lt xi
            have bj := u8_lt xj
            have hi1 : (i : Int) < (n : Int) := by omega
            have hj1 : (j : Int) < (n : Int) := by omega
            have hij2 : (i : Int) < (j : Int) := by omega
            clear hrev hblk hBr hnj hxi hxj hst0
            go_wp2_with fail
            go_region
            all_goals go_wp2_with fail
            refine ⟨⟨i + 1, j - 1, _, by omega, by omega, by go_num, by go_num, hst.out, by simp [hsz], BlkAt.set (BlkAt.set HB.out i _) j _, bel_drew ((HBr.out.setCell (p := ⟨g2, i, none⟩) hgw _).setCell (p := ⟨g2, j, none⟩) hgw _)⟩, ?_⟩
            simp [intOf]
            omega
          · have hlast := hrev.last HLL.out (by omega) (by omega)
            have hRl : n = L.reverse.length := by rw [List.length_reverse]; exact HLL.out
            have hconv : (convert 32 9 (.slice (some ⟨g2, 0, none⟩) n cap2)).run Tryz.prog wr = .ok (.string ⟨L.reverse.toArray⟩) wr := by
              have := run_convert_bytes_back (P := Tryz.prog) wr 32 9 5 ⟨g2, 0, none⟩ cap2 L.reverse Tryz.underlying32 Tryz.underlying5 Tryz.underlying9 fun k hk => by
                have hadd : (⟨g2, 0, none⟩ : Addr).add k = ⟨g2, k, none⟩ := by unfold Addr.add; split <;> simp_all
                rw [hadd, hblk.cell k, hlast k (by omega), List.getD_eq_getElem?_getD, List.getElem?_eq_getElem hk]
                rfl
              rw [← hRl] at this
              exact this
            clear hlast hrev hblk hBr hRl
            go_wp2_with fail
            go_ret
            exact ⟨by rw [HLR.out]; rfl, HBr.out⟩
    · have hmb : (m == 0) = false := beq_eq_false_iff_ne.2 hm
      have hst := Lib.hid (showInv_step HIV.out (Or.inr hm))
      obtain ⟨q, hq, hqd, hqm⟩ := mod_two m
      have HQD := Lib.hid hqd
      have hdec : (m.tdiv 10).natAbs < m.natAbs := by rcases b3 with h | h <;> omega
      have hmore : ∀ (W w2 : World) (g2 cap2 : Nat), w2.ownsRow w.heap.size 5 1 (.slice (some ⟨g2, 0, none⟩) (u.length + 1) cap2) (u.length + 1) (byteVs u.reverse ++ [.int .u8 (48 + (q : Int))]) → w2.ownsRow w.heap.size 5 1 (.slice (some ⟨g2, 0, none⟩) (u.length + 1) cap2) (digitOf m :: u).length (byteVs (digitOf m :: u).reverse) := fun W w2 g2 cap2 h => by
        rw [List.reverse_cons, byteVs_snoc, HQD.out]
        exact h
      have HM := Lib.hid hmore
      clear hqd hmore
      rcases hqm with hqm | ⟨hqm, hqp⟩
      all_goals
        go_wp2_with (at_builtin; refine wpList_append_lies _ rfl _ _ 32 rfl w.heap.size 5 i0 (.int .u8 0) 1 1 Tryz.underlying32 HI.out HZ0.out HZ1.out HZ2.out rfl (by decide) _ _ _ rfl (hown.alloc _) ⟨wr.heap.size, 0, none⟩ 1 1 [.int .u8 (48 + (q : Int))] rfl rfl (one_news _ _) (one_cell _) (by decide) ?c3 ?c4 ?c5 (wr.heap.size + 1) (by simp) ?_)
        case c3 => unfold maxLen; omega
        case c4 => omega
        case c5 => simp; omega
        intro g2 cap2 w2 hown2 hgrow hat hlt
        have hB2 : Below w.heap.size w w2 := (bel_alloc hB _).grown hgrow (by rw [size_al]; omega) (fun k hk => (World.ownsRow.lt hown k hk).1)
        have HO2 := Lib.hid (HM.out w w2 g2 cap2 hown2)
        clear hown2 hgrow hat
        go_wp2_with fail
        exact ⟨⟨_, _, rfl, b1, b2, hst.out, HO2.out, hB2⟩, hdec⟩
end
end Go.Proofs.YtfdecbfcddkoiaaGreatDoor
