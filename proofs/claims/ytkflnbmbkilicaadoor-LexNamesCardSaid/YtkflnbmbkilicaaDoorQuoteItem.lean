/-
  quote.decoder, quote.item.
-/
import Derived.Test.YtkflnbmbkilicaaDoorQuoteCoded
import Derived.Laws.EntriesVeiled
namespace Go.Proofs.YtkflnbmbkilicaaDoor
open Go.RowKit

/-- What the decoder of a byte that stands for a rune is: a function that has captured the rune. -/
def StandsPost (v : Int) (w : World) (e : Ending) (w' : World) : Prop :=
  ∃ b, e = .returned (.func (.func 87) #[] #[.pointer (some ⟨b, 0, none⟩)]) ∧ w'.cell? ⟨b, 0, none⟩ = some (.int .i64 v) ∧ Below w.heap.size w w'
set_option maxRecDepth 100000 in
set_option maxHeartbeats 1000000 in
theorem stands_any (v : Int) (w : World) : Calls Tryd.prog 86 #[.int .i64 v] w (StandsPost v w) := by
  go_enter Tryd.func86, Tryd.ntmps86
  go_wp2_with fail
  go_ret
  exact ⟨w.heap.size, rfl, (cell_al_eq w _ _ w.heap.size 0 rfl).trans rfl, bel_alloc (Below.refl _ _) _⟩
set_option maxRecDepth 100000 in
set_option maxHeartbeats 1000000 in
theorem standsRun_any (s : ByteArray) (a v : Int) (b : Nat) (w : World) (hc : w.cell? ⟨b, 0, none⟩ = some (.int .i64 v)) :
    Calls Tryd.prog 87 #[.string s, .int .i64 a, .pointer (some ⟨b, 0, none⟩)] w fun e w' => e = .returned (.tuple #[.int .i64 v, .int .i64 a, .int .i64 0]) ∧ w = w' := by
  go_enter Tryd.func87, Tryd.ntmps87
  go_wp2_with fail
  go_ret3
  exact ⟨rfl, rfl⟩
set_option maxRecDepth 100000 in
set_option maxHeartbeats 1000000 in
theorem decoder_b (w : World) : Calls Tryd.prog 74 #[.int .u8 98] w (StandsPost 8 w) := by
  go_enter Tryd.func74, Tryd.ntmps74
  go_wp2_with fail
  refine (stands_any _ _).mono ?_
  rintro e w2 ⟨b, rfl, hc, hb⟩
  go_wp2_with fail
  go_ret
  exact ⟨b, rfl, hc, hb⟩
set_option maxRecDepth 100000 in
set_option maxHeartbeats 1000000 in
theorem decoder_f (w : World) : Calls Tryd.prog 74 #[.int .u8 102] w (StandsPost 12 w) := by
  go_enter Tryd.func74, Tryd.ntmps74
  go_wp2_with fail
  refine (stands_any _ _).mono ?_
  rintro e w2 ⟨b, rfl, hc, hb⟩
  go_wp2_with fail
  go_ret
  exact ⟨b, rfl, hc, hb⟩
set_option maxRecDepth 100000 in
set_option maxHeartbeats 1000000 in
theorem decoder_n (w : World) : Calls Tryd.prog 74 #[.int .u8 110] w (StandsPost 10 w) := by
  go_enter Tryd.func74, Tryd.ntmps74
  go_wp2_with fail
  refine (stands_any _ _).mono ?_
  rintro e w2 ⟨b, rfl, hc, hb⟩
  go_wp2_with fail
  go_ret
  exact ⟨b, rfl, hc, hb⟩
set_option maxRecDepth 100000 in
set_option maxHeartbeats 1000000 in
theorem decoder_r (w : World) : Calls Tryd.prog 74 #[.int .u8 114] w (StandsPost 13 w) := by
  go_enter Tryd.func74, Tryd.ntmps74
  go_wp2_with fail
  refine (stands_any _ _).mono ?_
  rintro e w2 ⟨b, rfl, hc, hb⟩
  go_wp2_with fail
  go_ret
  exact ⟨b, rfl, hc, hb⟩
set_option maxRecDepth 100000 in
set_option maxHeartbeats 1000000 in
theorem decoder_t (w : World) : Calls Tryd.prog 74 #[.int .u8 116] w (StandsPost 9 w) := by
  go_enter Tryd.func74, Tryd.ntmps74
  go_wp2_with fail
  refine (stands_any _ _).mono ?_
  rintro e w2 ⟨b, rfl, hc, hb⟩
  go_wp2_with fail
  go_ret
  exact ⟨b, rfl, hc, hb⟩
set_option maxRecDepth 100000 in
set_option maxHeartbeats 1000000 in
theorem decoder_34 (w : World) : Calls Tryd.prog 74 #[.int .u8 34] w (StandsPost 34 w) := by
  go_enter Tryd.func74, Tryd.ntmps74
  go_wp2_with fail
  refine (stands_any _ _).mono ?_
  rintro e w2 ⟨b, rfl, hc, hb⟩
  go_wp2_with fail
  go_ret
  exact ⟨b, rfl, hc, hb⟩
set_option maxRecDepth 100000 in
set_option maxHeartbeats 1000000 in
theorem decoder_92 (w : World) : Calls Tryd.prog 74 #[.int .u8 92] w (StandsPost 92 w) := by
  go_enter Tryd.func74, Tryd.ntmps74
  go_wp2_with fail
  refine (stands_any _ _).mono ?_
  rintro e w2 ⟨b, rfl, hc, hb⟩
  go_wp2_with fail
  go_ret
  exact ⟨b, rfl, hc, hb⟩
set_option maxRecDepth 100000 in
set_option maxHeartbeats 1000000 in
theorem decoder_47 (w : World) : Calls Tryd.prog 74 #[.int .u8 47] w (StandsPost 47 w) := by
  go_enter Tryd.func74, Tryd.ntmps74
  go_wp2_with fail
  refine (stands_any _ _).mono ?_
  rintro e w2 ⟨b, rfl, hc, hb⟩
  go_wp2_with fail
  go_ret
  exact ⟨b, rfl, hc, hb⟩
set_option maxRecDepth 100000 in
set_option maxHeartbeats 1000000 in
theorem decoder_u (w : World) : Calls Tryd.prog 74 #[.int .u8 117] w fun e w' => e = .returned (.func (.func 88) #[] #[]) ∧ w = w' := by
  go_enter Tryd.func74, Tryd.ntmps74
  go_wp2_with fail
  go_ret
  exact ⟨rfl, rfl⟩
theorem beq_no {c : Int} {k : Int} (h : ¬ c = k) : (c == k) = false := beq_eq_false_iff_ne.2 h
set_option maxRecDepth 100000 in
set_option maxHeartbeats 1000000 in
theorem decoder_nil (c : Int) (w : World) (h34 : ¬ c = 34) (h92 : ¬ c = 92) (h47 : ¬ c = 47) (h98 : ¬ c = 98) (h102 : ¬ c = 102) (h110 : ¬ c = 110) (h114 : ¬ c = 114) (h116 : ¬ c = 116) (h117 : ¬ c = 117) :
    Calls Tryd.prog 74 #[.int .u8 c] w fun e w' => e = .returned .nilFunc ∧ w = w' := by
  have b34 := beq_no h34
  have b92 := beq_no h92
  have b47 := beq_no h47
  have b98 := beq_no h98
  have b102 := beq_no h102
  have b110 := beq_no h110
  have b114 := beq_no h114
  have b116 := beq_no h116
  have b117 := beq_no h117
  clear h34 h92 h47 h98 h102 h110 h114 h116 h117
  go_enter Tryd.func74, Tryd.ntmps74
  go_wp2_with fail
  go_ret
  exact ⟨rfl, rfl⟩
end Go.Proofs.YtkflnbmbkilicaaDoor
