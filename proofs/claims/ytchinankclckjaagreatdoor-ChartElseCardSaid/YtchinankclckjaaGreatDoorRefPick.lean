/-
 legateref08.Get, legateref11: the document's picker over a value.
-/
import Derived.Test.YtchinankclckjaaGreatDoorSignP
import Derived.Test.YtchinankclckjaaGreatDoorChartA
import Derived.IntWalk
namespace Go.Proofs.YtchinankclckjaaGreatDoor
open Go.RowKit
theorem b5 {w:World} {b:Nat} {T:TypeId} {v0 v1 v2 v3 v4:Value} (h:BlkAt w b T #[v0,v1,v2,v3,v4]) :
 w.cell? ⟨b,0,none⟩=some v0∧w.cell? ⟨b,1,none⟩=some v1∧w.cell? ⟨b,2,none⟩=some v2∧w.cell? ⟨b,3,none⟩=some v3∧w.cell? ⟨b,4,none⟩=some v4∧∀ i,w.frozen? ⟨b,i,none⟩=false :=
 ⟨h.cell 0,h.cell 1,h.cell 2,h.cell 3,h.cell 4,h.free⟩
theorem bset5 {a b:World} (h:Below a.heap.size a b) {g:Nat} (hg:a.heap.size≤g) (v0 v1 v2 v3 v4:Value):Below a.heap.size a (((((b.setCell ⟨g,0,none⟩ v0).setCell ⟨g,1,none⟩ v1).setCell ⟨g,2,none⟩ v2).setCell ⟨g,3,none⟩ v3).setCell ⟨g,4,none⟩ v4) :=
 bel_set (bel_set (bel_set (bel_set (bel_set h (p:=⟨g,0,none⟩) hg v0) (p:=⟨g,1,none⟩) hg v1) (p:=⟨g,2,none⟩) hg v2) (p:=⟨g,3,none⟩) hg v3) (p:=⟨g,4,none⟩) hg v4
theorem valAt_agg {w:World} {V:JV} {v:Value} (h:ValAt w V v):∃ an nc ai ic,v=.agg #[.int .u8 V.k,.int .i64 V.n,.string V.t,.slice an V.names.length nc,.slice ai V.items.length ic]:=by
 obtain ⟨vn,vi,rfl,-,-,-,-,-,hns,his⟩:=valAt_iff.1 h
 obtain ⟨ai,icap,rfl,-,-⟩:=his.parts
 obtain ⟨an,ncap,rfl,-,-,-⟩:=hns.parts
 exact ⟨an,ncap,ai,icap,rfl⟩
def zV:Value:=.agg #[.int .u8 0,.int .i64 0,.string ⟨#[]⟩,.slice none 0 0,.slice none 0 0]
end Go.Proofs.YtchinankclckjaaGreatDoor
