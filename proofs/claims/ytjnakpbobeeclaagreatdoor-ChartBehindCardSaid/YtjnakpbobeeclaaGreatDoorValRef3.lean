/-
 legateref08: part of lists and objects; May.
-/
import Derived.Test.YtjnakpbobeeclaaGreatDoorUtfA
import Derived.Test.YtjnakpbobeeclaaGreatDoorSignP
namespace Go.Proofs.YtjnakpbobeeclaaGreatDoor
open Go.RowKit
theorem wtL_mem : ∀ {l : List JV} {x : JV}, x ∈ l → wt x ≤ wtL l
 | y :: r, x, h => by
   rw [wtL]
   rcases List.mem_cons.1 h with rfl | h
   · omega
   · have := wtL_mem h; omega
mutual
theorem count_wt : ∀ V : JV, countV V ≤ wt V
 | .mk k n t names items => by
   rw [countV, wt_eq]
   have := count_wtL items
   simp only [JV.items]
   omega
theorem count_wtL : ∀ l : List JV, countL l ≤ wtL l
 | [] => by rw [countL, wtL]; omega
 | x :: r => by
   rw [countL, wtL]
   have := count_wt x
   have := count_wtL r
   omega
end
end Go.Proofs.YtjnakpbobeeclaaGreatDoor
