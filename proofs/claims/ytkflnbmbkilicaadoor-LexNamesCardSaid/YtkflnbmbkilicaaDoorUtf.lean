/-
  utf.Len and utf.Valid: whether a string is UTF-8, by the runes that ranging over it gives.
-/
import Derived.Test.YtkflnbmbkilicaaDoorNumBase
import Derived.Test.YtkflnbmbkilicaaDoorShelf
import Derived.Lib.RuneCount
import Derived.Lib.OthersKept
namespace Go.Proofs.YtkflnbmbkilicaaDoor
open Go.RowKit

/-- Is the rune at a place the one that stands for what is none, without its three bytes? -/
def badAt (s : ByteArray) (pos : Nat) : Bool := decide ((Utf8.decode s pos).1 = 65533) && !Lib.hasPrefix (s.data.toList.drop pos) [239, 191, 189]
/-- From a place on: is it UTF-8? -/
def utfGo (s : ByteArray) : Nat → Nat → Bool
  | 0, _ => true
  | f + 1, pos => if pos < s.size then (if badAt s pos then false else utfGo s f (pos + (Utf8.decode s pos).2)) else true
def utfOK (s : ByteArray) : Bool := utfGo s s.size 0

def LenPost (s : ByteArray) (w : World) (e : Ending) (w' : World) : Prop :=
  ∃ n : Int, e = .returned (.tuple #[.int .i64 n, .bool (utfOK s)]) ∧ Below w.heap.size w w'

theorem utfGo_end (s : ByteArray) (f pos : Nat) (h : ¬ pos < s.size) : utfGo s f pos = true := by
  cases f with
  | zero => rfl
  | succ f => rw [utfGo, if_neg h]

end Go.Proofs.YtkflnbmbkilicaaDoor
