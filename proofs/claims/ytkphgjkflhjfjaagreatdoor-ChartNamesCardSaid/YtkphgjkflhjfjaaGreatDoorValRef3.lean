/-
  legateref08: which values may be, as the document tells it.
  legateref08: part of lists and objects; May.
-/
import Derived.Test.YtkphgjkflhjfjaaGreatDoorUtfA
import Derived.Test.YtkphgjkflhjfjaaGreatDoorSignP
namespace Go.Proofs.YtkphgjkflhjfjaaGreatDoor
section
open Go.RowKit
theorem refWrit_any (s:ByteArray) (w:World) (hs:s.size ≤ 281474976710656) (r:Bool) (hr:Hid (writ s = r)) :
 Calls Tryz.prog 36 #[.string s] w fun e w' => e = .returned (.bool r) ∧ Below w.heap.size w w':=by
 obtain ⟨u,hu⟩:∃ u,utfOK s = u:=⟨_,rfl⟩
 have hL:=refLen_any s w hs
 unfold RefLenPost at hL
 rw [hu] at hL
 have hrr:r = (decide (s.size ≤ 4096) && u):=by rw [← hr.out,writ,hu]
 have HRR:=Lib.hid hrr
 clear hrr hu hr
 cases u with
 | true =>
   go_enter Tryz.func36,Tryz.ntmps36
   go_wp2_with fail
   refine hL.mono ?_
   rintro e w2 ⟨n,rfl,hb⟩
   go_wp2_with fail
   go_ret
   refine ⟨ret_bool ?_,hb⟩
   rw [HRR.out,Bool.and_true]
   rw [Bool.eq_iff_iff,decide_eq_true_eq,decide_eq_true_eq]
   omega
 | false =>
   go_enter Tryz.func36,Tryz.ntmps36
   go_wp2_with fail
   refine hL.mono ?_
   rintro e w2 ⟨n,rfl,hb⟩
   go_wp2_with fail
   go_ret
   exact ⟨ret_bool (by rw [HRR.out,Bool.and_false]),hb⟩
end

section
open Go.RowKit
theorem wtL_mem:∀ {l:List JV} {x:JV},x ∈ l → wt x ≤ wtL l
 | y :: r,x,h => by
   rw [wtL]
   rcases List.mem_cons.1 h with rfl | h
   ·omega
   ·have:=wtL_mem h; omega
mutual
theorem count_wt:∀ V:JV,countV V ≤ wt V
 | .mk k n t names items => by
   rw [countV,wt_eq]
   have:=count_wtL items
   simp only [JV.items]
   omega
theorem count_wtL:∀ l:List JV,countL l ≤ wtL l
 | [] => by rw [countL,wtL]; omega
 | x :: r => by
   rw [countL,wtL]
   have:=count_wt x
   have:=count_wtL r
   omega
end
end
end Go.Proofs.YtkphgjkflhjfjaaGreatDoor
