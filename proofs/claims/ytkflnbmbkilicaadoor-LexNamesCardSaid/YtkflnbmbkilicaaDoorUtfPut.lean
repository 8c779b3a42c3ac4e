/-
  utf.Put: the bytes of a rune.
-/
import Derived.Test.YtkflnbmbkilicaaDoorLexPlain
import Derived.Laws.Runes
namespace Go.Proofs.YtkflnbmbkilicaaDoor
open Go.RowKit

theorem encode_eq (r : Int) (h : isRune r) : Utf8.encode r = ⟨(encP r).toArray⟩ := by
  obtain ⟨h0, h1, h2⟩ := h
  have hv : Utf8.valid r = true := by simp [Utf8.valid]; omega
  unfold Utf8.encode encP
  rw [hv]
  simp only [if_true]
  by_cases c1 : r < 128
  · rw [if_pos c1, if_pos (by omega)]
  · rw [if_neg c1, if_neg (by omega)]
    by_cases c2 : r < 2048
    · rw [if_pos c2, if_pos (by omega)]
    · rw [if_neg c2, if_neg (by omega)]
      by_cases c3 : r < 65536
      · rw [if_pos c3, if_pos (by omega)]
      · rw [if_neg c3, if_neg (by omega)]
set_option maxRecDepth 100000 in
set_option maxHeartbeats 1000000 in
theorem utfPut_any (r : Int) (w : World) (h : isRune r) (t : ByteArray) (ht : Hid (t = ⟨(encP r).toArray⟩)) :
    Calls Tryd.prog 63 #[.int .i64 r] w fun e w' => e = .returned (.tuple #[.string t, .int .i64 0]) ∧ w = w' := by
  have he := encode_eq r h
  obtain ⟨h0, h1, h2⟩ := h
  have HE := Lib.hid (he.trans ht.out.symm)
  clear he
  by_cases c : 55296 ≤ r
  · have c2 : ¬ r ≤ 57343 := by omega
    clear h2
    go_enter Tryd.func63, Tryd.ntmps63
    go_wp2_with fail
    go_ret2
    exact ⟨by rw [← HE.out]; rfl, rfl⟩
  · clear h2
    go_enter Tryd.func63, Tryd.ntmps63
    go_wp2_with fail
    go_ret2
    exact ⟨by rw [← HE.out]; rfl, rfl⟩
end Go.Proofs.YtkflnbmbkilicaaDoor
