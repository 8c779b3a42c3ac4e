/-
  The walks of the laws NumReads and NumShows.
-/
import Derived.Test.YtjekdhahbkofbaaDoorNumRefRead
import Derived.OpenShut
namespace Go.Proofs.YtjekdhahbkofbaaDoor
open Go.RowKit

set_option maxHeartbeats 400000 in
theorem numShows_walk (a0 : Int) (w : World) (w0 : (Lit.int .i64 a0).wf = true) (henv : NumEnv w) :
    Calls Tryd.prog 9 #[.int .i64 a0] w fun e w' => e = .returned (.bool true) ∧ Below w.heap.size w w' := by
  obtain ⟨h0, h1⟩ := bounds_i64 w0
  clear w0
  go_enter Tryd.func9, Tryd.ntmps9
  go_wp2_with fail
  refine (Show_any a0 h0 h1 _ henv.toTabEnv).mono ?_
  rintro e w1 ⟨rfl, hb1⟩
  go_wp2_with fail
  refine (refShow_any a0 h0 h1 _ _ rfl).mono ?_
  rintro e w2 ⟨rfl, hb2⟩
  go_wp2_with fail
  refine (awake6_any _ ((henv.below hb1).below hb2)).mono ?_
  rintro e w3 ⟨rfl, hb3⟩
  go_wp2_with fail
  go_ret
  exact ⟨rfl, below_more (below_more hb1 hb2) hb3⟩

set_option maxHeartbeats 400000 in
theorem numReads_walk (a0 : ByteArray) (a1 : Int) (w : World) (w0 : a0.size ≤ maxLen) (_w1 : (Lit.int .i64 a1).wf = true) (henv : NumEnv w) :
    Calls Tryd.prog 8 #[.string a0, .int .i64 a1] w fun e w' => e = .returned (.bool true) ∧ Below w.heap.size w w' := by
  unfold maxLen at w0
  by_cases hl : 20000 < a0.size
  · go_enter Tryd.func8, Tryd.ntmps8
    go_wp2_with fail
    refine (awake6_any _ henv).mono ?_
    rintro e w3 ⟨rfl, hb3⟩
    go_wp2_with fail
    go_ret
    exact ⟨rfl, hb3⟩
  · go_enter Tryd.func8, Tryd.ntmps8
    go_wp2_with fail
    refine (Read_any a0 a1 _ (by omega) henv).mono ?_
    rintro e w1 ⟨rfl, hb1⟩
    go_wp2_with fail
    refine (refRead_any a0 a1 _ (by omega)).mono ?_
    rintro e w2 ⟨rfl, hb2⟩
    go_wp2_with fail
    refine (awake6_any _ ((henv.below hb1).below hb2)).mono ?_
    rintro e w3 ⟨rfl, hb3⟩
    go_wp2_with fail
    go_ret
    exact ⟨rfl, below_more (below_more hb1 hb2) hb3⟩
end Go.Proofs.YtjekdhahbkofbaaDoor
