/-
 Blocks that are known whole, and worlds that differ from others in one block and in new ones.
-/
import Derived.Test.YtchinankclckjaaGreatDoorValA
import Derived.OneCell
import Derived.Maps.AppendAt
import Derived.Maps.Range
import Derived.Deep.AppendLies
namespace Go.Proofs.YtchinankclckjaaGreatDoor
open Go.RowKit
/-! Blocks that are known whole. -/
def BlkAt (w:World) (r:Nat) (t:TypeId) (cs:Array Value):Prop:=w.heap[r]?=some (.cells cs t (0,0))
theorem BlkAt.lt {w:World} {r:Nat} {t:TypeId} {cs:Array Value} (h:BlkAt w r t cs):r<w.heap.size:=lt_of_block h
theorem BlkAt.cell {w:World} {r:Nat} {t:TypeId} {cs:Array Value} (h:BlkAt w r t cs) (i:Nat):w.cell? ⟨r,i,none⟩=cs[i]?:=by
 unfold BlkAt at h
 unfold World.cell?
 rw [h]
 rfl
theorem BlkAt.free {w:World} {r:Nat} {t:TypeId} {cs:Array Value} (h:BlkAt w r t cs) (i:Nat):w.frozen? ⟨r,i,none⟩=false:=by
 unfold BlkAt at h
 unfold World.frozen?
 rw [h]
 simp
theorem BlkAt.set {w:World} {r:Nat} {t:TypeId} {cs:Array Value} (h:BlkAt w r t cs) (i:Nat) (v:Value):BlkAt (w.setCell ⟨r,i,none⟩ v) r t (cs.setIfInBounds i v):=by
 have hlt:=h.lt
 have h':w.heap[r]=.cells cs t (0,0):=by
  have:=h
  unfold BlkAt at this
  simpa [Array.getElem?_eq_getElem hlt] using this
 show (w.heap.modify r _)[r]?=_
 rw [Array.getElem?_eq_getElem (by simpa using hlt),Array.getElem_modify_self,h']
 rfl
theorem BlkAt.set_far {w:World} {r b:Nat} {t:TypeId} {cs:Array Value} (h:BlkAt w r t cs) (hne:b≠r) (i:Nat) (v:Value):BlkAt (w.setCell ⟨b,i,none⟩ v) r t cs:=by
 unfold BlkAt
 rw [Below.heap_setCell _ _ _ _ (fun e=>hne e.symm)]
 exact h
theorem BlkAt.keep {w w':World} {r:Nat} {t:TypeId} {cs:Array Value} (h:BlkAt w r t cs) (hb:Below w.heap.size w w'):BlkAt w' r t cs:=by
 unfold BlkAt
 rw [hb.block r h.lt]
 exact h
theorem BlkAt.grown {w w':World} {r:Nat} {t:TypeId} {cs:Array Value} {row:Option Nat} (h:BlkAt w r t cs) (hg:w.grownBy w' row) (hne:some r≠row):BlkAt w' r t cs:=by
 unfold BlkAt
 rw [hg.block r h.lt hne]
 exact h
theorem BlkAt.alloc {w:World} {r:Nat} {t:TypeId} {cs:Array Value} (h:BlkAt w r t cs) (o:Obj):BlkAt (w.alloc o) r t cs:=h.keep ((Below.refl _ _).alloc (Nat.le_refl _) _)
theorem grown_set {w w':World} {r:Nat} (h:w.grownBy w' (some r)) (i:Nat) (v:Value):w.grownBy (w'.setCell ⟨r,i,none⟩ v) (some r):=by
 refine ⟨h.os,h.tape,h.output,?_,fun k hk hne=>?_⟩
 ·show _≤(w'.heap.modify r _).size
  rw [Array.size_modify]
  exact h.size
 ·rw [Below.heap_setCell _ _ _ _ (fun e=>hne (by rw [show k=r from e]))]
  exact h.block k hk hne
theorem grown_set_new {w w':World} {r b:Nat} (h:w.grownBy w' (some r)) (hb:w.heap.size≤b) (i:Nat) (v:Value):w.grownBy (w'.setCell ⟨b,i,none⟩ v) (some r):=by
 refine ⟨h.os,h.tape,h.output,?_,fun k hk hne=>?_⟩
 ·show _≤(w'.heap.modify b _).size
  rw [Array.size_modify]
  exact h.size
 ·rw [Below.heap_setCell _ _ _ _ (fun e=>by have:k=b:=e;omega)]
  exact h.block k hk hne
theorem grown_below {w w' w'':World} {row:Option Nat} (h:w.grownBy w' row) (hb:Below w'.heap.size w' w''):w.grownBy w'' row :=
 ⟨hb.os.trans h.os,hb.tape.trans h.tape,hb.output.trans h.output,Nat.le_trans h.size hb.size,fun k hk hne=>(hb.block k (Nat.lt_of_lt_of_le hk h.size)).trans (h.block k hk hne)⟩
theorem grown_alloc {w w':World} {row:Option Nat} (h:w.grownBy w' row) (o:Obj):w.grownBy (w'.alloc o) row:=grown_below h ((Below.refl _ _).alloc (Nat.le_refl _) _)
theorem grown_drewN {w w':World} {row:Option Nat} (h:w.grownBy w' row) (n:Nat):w.grownBy (w'.drewN n) row:=⟨h.os,h.tape,h.output,h.size,h.block⟩
theorem grown_drew {w w':World} {row:Option Nat} (h:w.grownBy w' row):w.grownBy w'.drew row:=⟨h.os,h.tape,h.output,h.size,h.block⟩
end Go.Proofs.YtchinankclckjaaGreatDoor
