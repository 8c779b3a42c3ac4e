/-
 A row of strings of the call's own.
-/
import Derived.Test.YtchinankclckjaaGreatDoorChartA
namespace Go.Proofs.YtchinankclckjaaGreatDoor
open Go.RowKit
theorem infoStr:(Tryz.prog.info? 9).map (fun i=>(i.zero,i.size,i.bytes))=some (some (.string ⟨#[]⟩),1,16):=by kernel_rfl
theorem strs_own {w:World} {B1 B:Nat} {v:Value} {l:List ByteArray} (h:w.ownsRow B1 9 1 v l.length (l.map Value.string)) (hB:B≤B1) (hm:∀ s ∈ l,s.size≤maxLen) (hl:l.length≤9223372036854775807):StrsAt (hidden (offB B none) w) v l:=by
 have h':=h
 refine ⟨hm,hl,?_⟩
 rcases h.2 with ⟨rfl,h0⟩ | ⟨g,cap,cur,rfl,hg,hcl,_⟩
 ·left
  exact ⟨List.length_eq_zero_iff.1 h0,_,_,rfl⟩
 ·right
  refine ⟨g,0,cap,rfl,fun i s hs=>(hidden_cell _ _ _ _).2 ⟨offB_none.2 (Nat.le_trans hB hg),⟨_,_,hcl⟩,?_⟩⟩
  have hadd:∀ j,(⟨g,0,none⟩:Addr).add j=⟨g,j,none⟩:=fun j=>by unfold Addr.add;split <;> simp_all
  rw [Nat.zero_add,← hadd]
  exact World.ownsRow.cells h' (g:=g) rfl _ _ (by rw [List.getElem?_map,hs];rfl)
end Go.Proofs.YtchinankclckjaaGreatDoor
