/-
  utf.Len and utf.Valid: whether a string is UTF-8, by the runes that ranging over it gives.
-/
import Derived.Test.YtjekdhahbkofbaaDoorNumBase
import Derived.Test.YtjekdhahbkofbaaDoorShelf
import Derived.Lib.RuneCount
import Derived.Lib.OthersKept
namespace Go.Proofs.YtjekdhahbkofbaaDoor
open Go.RowKit

/-- Is the rune at a place the one that stands for what is none, without its three bytes? -/
def badAt (s : ByteArray) (pos : Nat) : Bool := decide ((Utf8.decode s pos).1 = 65533) && !Lib.hasPrefix (s.data.toList.drop pos) [239, 191, 189]
/-- From a place on: is it UTF-8? -/
def utfGo (s : ByteArray) : Nat → Nat → Bool
  | 0, _ => true
  | f + 1, pos => if pos < s.size then (if badAt s pos then false else utfGo s f (pos + (Utf8.decode s pos).2)) else true
def utfOK (s : ByteArray) : Bool := utfGo s s.size 0

def LenPost (s : ByteArray) (w : World) (e : Ending) (w' : World) : Prop :=
  ∃ n : Int, e = .returned (.tuple #[.int .i64 n, .bool (utfOK s)]) ∧ Below w.heap.size w w'

theorem utfGo_end (s : ByteArray) (f pos : Nat) (h : ¬ pos < s.size) : utfGo s f pos = true := by
  cases f with
  | zero => rfl
  | succ f => rw [utfGo, if_neg h]

set_option maxRecDepth 100000 in
set_option maxHeartbeats 1000000 in
theorem utfLen_any (s : ByteArray) (w : World) (hs : s.size ≤ maxLen) :
    Calls Tryd.prog 56 #[.string s] w (LenPost s w) := by
  unfold maxLen at hs
  go_enter Tryd.func56, Tryd.ntmps56
  go_wp2_with fail
  go_loopw [4] (fun n wr => ∃ (pos fuel : Nat) (m : Int), n = .int .i64 m ∧ 0 ≤ m ∧ m ≤ (pos : Int) ∧ wr.heap[w.heap.size]? = some (.stringIter s pos) ∧ Below w.heap.size w wr ∧ Hid (utfGo s fuel pos = utfOK s) ∧ s.size ≤ pos + fuel) (fun _ wr => s.size - wr.iterPos w.heap.size)
  case atStart =>
    refine ⟨0, s.size, 0, rfl, by omega, by omega, ?_, (Below.refl _ w).alloc (Nat.le_refl _) _, rfl, by omega⟩
    exact World.iter_heap w s 0
  case round =>
    obtain ⟨pos, fuel, m, rfl, m0, m1, hit, hbw, HG, hfu⟩ := hrel
    by_cases hp : pos < s.size
    · have hnx : ∀ ty, (Instr.next (.pointer (some ⟨w.heap.size, 0, none⟩)) true ty).run Tryd.prog wr = _ := fun ty => Lib.run_next_any_at wr w.heap.size s pos ty hit hp
      have hwd := Lib.decode_width_pos s pos hp
      have hit2 := Lib.iterAt_heap wr w.heap.size s pos (pos + (Utf8.decode s pos).2) hit
      have hbw2 := Lib.below_iterAt hbw (k := w.heap.size) (by omega) s (pos + (Utf8.decode s pos).2)
      obtain ⟨f, rfl⟩ : ∃ f, fuel = f + 1 := ⟨fuel - 1, by omega⟩
      have hgo : utfGo s (f + 1) pos = if badAt s pos then false else utfGo s f (pos + (Utf8.decode s pos).2) := by rw [utfGo, if_pos hp]
      have HGo := Lib.hid (hgo.symm.trans HG.out)
      have HIT := Lib.hid hit
      have HIT2 := Lib.hid hit2
      clear hgo HG hit hit2
      by_cases hr : (Utf8.decode s pos).1 = 65533
      · have hrb : (((Utf8.decode s pos).1 : Int) == 65533) = true := by rw [hr]; rfl
        have HR := Lib.hid hr
        clear hr
        go_wp2_with fail
        refine (Tryd.strings_HasPrefix _ _ _).mono ?_
        rintro e w' ⟨rfl, rfl⟩
        rw [Lib.extract_to_end]
        by_cases hpre : Lib.hasPrefix (s.data.toList.drop pos) [239, 191, 189] = true
        · have hb : badAt s pos = false := by simp [badAt, hpre]
          have HB := Lib.hid hb
          clear hb
          go_wp2_with fail
          refine ⟨⟨pos + (Utf8.decode s pos).2, f, m + 1, rfl, by omega, by omega, HIT2.out, hbw2, ?_, by omega⟩, ?_⟩
          · have := HGo.out
            rw [HB.out] at this
            exact this
          · simp only [World.iterPos, HIT2.out, HIT.out]
            omega
        · have hpf : Lib.hasPrefix (s.data.toList.drop pos) [239, 191, 189] = false := by simpa using hpre
          have hb : badAt s pos = true := by simp [badAt, hpf, HR.out]
          have HB := Lib.hid hb
          have hno := HGo.out
          rw [hb] at hno
          have HNO := Lib.hid hno
          clear hb hpre HB hno
          go_wp2_with fail
          go_ret2
          exact ⟨0, by rw [← HNO.out]; rfl, hbw2⟩
      · have hrb : (((Utf8.decode s pos).1 : Int) == 65533) = false := beq_eq_false_iff_ne.2 (by omega)
        have hb : badAt s pos = false := by simp [badAt, hr]
        have HB := Lib.hid hb
        clear hb hr
        go_wp2_with fail
        refine ⟨⟨pos + (Utf8.decode s pos).2, f, m + 1, rfl, by omega, by omega, HIT2.out, hbw2, ?_, by omega⟩, ?_⟩
        · have := HGo.out
          rw [HB.out] at this
          exact this
        · simp only [World.iterPos, HIT2.out, HIT.out]
          omega
    · have hnx : ∀ ty, (Instr.next (.pointer (some ⟨w.heap.size, 0, none⟩)) true ty).run Tryd.prog wr = _ := fun ty => Lib.run_next_end_at wr w.heap.size s pos ty hit hp
      have hok : utfOK s = true := by rw [← HG.out, utfGo_end s fuel pos hp]
      have HK := Lib.hid hok
      clear hok
      go_wp2_with fail
      go_ret2
      exact ⟨m, by rw [HK.out]; rfl, hbw⟩

theorem utfValid_any (s : ByteArray) (w : World) (hs : s.size ≤ maxLen) :
    Calls Tryd.prog 46 #[.string s] w fun e w' => e = .returned (.bool (utfOK s)) ∧ Below w.heap.size w w' := by
  go_enter Tryd.func46, Tryd.ntmps46
  go_wp2_with fail
  refine (utfLen_any s _ hs).mono ?_
  rintro e w' ⟨n, rfl, hb⟩
  go_wp2_with fail
  go_ret
  exact ⟨rfl, hb⟩
end Go.Proofs.YtjekdhahbkofbaaDoor
