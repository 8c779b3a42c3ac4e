/-
  Small facts on strings, for the walks: what a piece of a string reads as; that the tables of the library stay as they are while a call makes memory of its own.
-/
import Derived.Test.YtkflnbmbkilicaaDoorRows
import Derived.WalkKit
import Derived.WalkSpells
import Derived.WalkLawsBesides
import Derived.Lib.IndexBytes
import Derived.Lib.Hide
import Derived.Lib.LaidTab
import Derived.Lib.ItoaNum
import Derived.Sort.Grow
namespace Go.Proofs.YtkflnbmbkilicaaDoor
open Go.RowKit

theorem take_snoc (s : ByteArray) (k : Nat) (h : k < s.size) : s.data.toList.take (k + 1) = s.data.toList.take k ++ [s[k]] := by
  rw [List.take_succ_eq_append_getElem (by simpa using h)]; rfl
theorem ret_bool {a b : Bool} (h : a = b) : Ending.returned (.bool a) = .returned (.bool b) := by rw [h]
theorem ret_int {k : IntKind} {a b : Int} (h : a = b) : Ending.returned (.int k a) = .returned (.int k b) := by rw [h]
theorem mem_at (s : ByteArray) (k : Nat) (h : k < s.size) : s[k] ∈ s.data.toList := List.mem_of_getElem? (Lib.data_getElem? s k h)
theorem toList_data (s : ByteArray) : s.toList = s.data.toList := ByteArray.toList_eq s
theorem size_len (s : ByteArray) : s.data.toList.length = s.size := (Lib.size_eq s).symm
theorem head_at (s : ByteArray) (h : 0 < s.size) : s.data.toList = s[0] :: s.data.toList.tail := by
  have h0 := Lib.data_getElem? s 0 h
  match hl : s.data.toList, h0 with
  | [], h0 => simp at h0
  | c :: r, h0 => simp at h0; rw [h0]; rfl
theorem empty_of (s : ByteArray) (h : ¬ 0 < s.size) : s.data.toList = [] := List.length_eq_zero_iff.1 (by rw [size_len]; omega)
theorem bytes_of (l : List UInt8) : (⟨l.toArray⟩ : ByteArray).data.toList = l := rfl
theorem bytes_size (l : List UInt8) : (⟨l.toArray⟩ : ByteArray).size = l.length := rfl
theorem bytes_back (s : ByteArray) : s = ⟨s.data.toList.toArray⟩ := by cases s; rfl

/-- Two pieces of memory that a call leaves alone: what lay there before it. -/
theorem below_more {a b c : World} (h : Below a.heap.size a b) (k : Below b.heap.size b c) : Below a.heap.size a c := h.trans (k.mono h.size)
theorem below_grow {w : World} (k : Nat) (os : Array Obj) : Below w.heap.size w (Go.Sort.grow (w.drewN k) os) :=
  ⟨rfl, rfl, rfl, by show w.heap.size ≤ (w.heap ++ os).size; simp, fun i hi => by
    show (w.heap ++ os)[i]? = w.heap[i]?
    rw [Array.getElem?_append_left (by omega)]⟩

theorem gPow : Tryd.prog.globalNamed "internal/strconv.uint64pow10" = some 3 := by kernel_rfl

/-- The library's table of powers of ten is laid. -/
structure TabEnv (w : World) : Prop where
  tab : Lib.TabIs Tryd.prog w "internal/strconv.uint64pow10" .u64 Lib.pow10Tab
  big : 3 < w.heap.size
theorem TabEnv.below {w w' : World} (h : TabEnv w) (hb : Below w.heap.size w w') : TabEnv w' :=
  ⟨var?_below hb gPow h.big h.tab, Nat.lt_of_lt_of_le h.big hb.size⟩

theorem gRange : Tryd.prog.globalNamed "strconv.ErrRange" = some 2 := by kernel_rfl
/-- The library's error for numbers out of range is laid, too. -/
structure NumEnv (w : World) : Prop extends TabEnv w where
  range : ∃ tp p, w.var? Tryd.prog "strconv.ErrRange" = some #[.iface tp p]
  rbig : 2 < w.heap.size
theorem NumEnv.below {w w' : World} (h : NumEnv w) (hb : Below w.heap.size w w') : NumEnv w' := by
  obtain ⟨tp, p, hr⟩ := h.range
  exact ⟨h.toTabEnv.below hb, ⟨tp, p, var?_below hb gRange h.rbig hr⟩, Nat.lt_of_lt_of_le h.rbig hb.size⟩
end Go.Proofs.YtkflnbmbkilicaaDoor
