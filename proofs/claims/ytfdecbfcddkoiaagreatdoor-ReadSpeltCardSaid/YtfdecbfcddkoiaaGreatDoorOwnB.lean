/-
  A row of bytes of the call's own, grown by append.
-/
import Derived.Test.YtfdecbfcddkoiaaGreatDoorValA
import Derived.Deep.AppendLies
import Derived.Laws.IdiomStrings
import Derived.Lib.SmallJoins
namespace Go.Proofs.YtfdecbfcddkoiaaGreatDoor
open Go.RowKit

theorem infoUb : (Tryz.prog.info? 5).map (fun i => (i.zero, i.size, i.bytes)) = some (some (.int .u8 0), 1, 1) := by kernel_rfl
/-- Bytes as cells. -/
def byteVs (l : List UInt8) : List Value := l.map fun c => Value.int .u8 (c.toNat : Int)
theorem byteVs_snoc (l : List UInt8) (c : UInt8) : byteVs (l ++ [c]) = byteVs l ++ [.int .u8 (c.toNat : Int)] := by simp [byteVs]
theorem byteVs_len (l : List UInt8) : (byteVs l).length = l.length := by simp [byteVs]
/-- A row of bytes of the call's own. -/
def OwnB (w : World) (B : Nat) (g n cap : Nat) (l : List UInt8) : Prop := n = l.length ∧ w.ownsRow B 5 1 (.slice (some ⟨g, 0, none⟩) n cap) n (byteVs l)
theorem OwnB.conv {w : World} {B g n cap : Nat} {l : List UInt8} (h : OwnB w B g n cap l) :
    (convert 32 9 (.slice (some ⟨g, 0, none⟩) n cap)).run Tryz.prog w = .ok (.string ⟨l.toArray⟩) w := by
  obtain ⟨rfl, h⟩ := h
  refine run_convert_bytes_back w _ _ _ ⟨g, 0, none⟩ cap l Tryz.underlying32 Tryz.underlying5 Tryz.underlying9 fun j hj => ?_
  exact h.cells rfl j _ (by simp [byteVs, List.getElem?_eq_getElem hj])
theorem own_first (w : World) (c : UInt8) : OwnB (w.alloc (.cells #[.int .u8 (c.toNat : Int)] 5)) w.heap.size w.heap.size 1 1 [c] := by
  refine ⟨rfl, by simp [byteVs], Or.inr ⟨w.heap.size, 1, #[.int .u8 (c.toNat : Int)], rfl, Nat.le_refl _, ?_, Nat.le_refl _, by decide, rfl, rfl⟩⟩
  show (w.heap.push _)[w.heap.size]? = _
  simp
theorem OwnB.more {w w2 : World} {B g n cap g2 cap2 : Nat} {l : List UInt8} {c : UInt8} (h : OwnB w B g n cap l) (h2 : w2.ownsRow B 5 1 (.slice (some ⟨g2, 0, none⟩) (n + 1) cap2) (n + 1) (byteVs l ++ [.int .u8 (c.toNat : Int)])) : OwnB w2 B g2 (n + 1) cap2 (l ++ [c]) :=
  ⟨by rw [h.1]; simp, by rw [byteVs_snoc]; exact h2⟩
theorem one_news (w : World) (c : Int) : ∀ j u, [Value.int .u8 c][j]? = some u → (w.alloc (.cells #[.int .u8 c] 5)).cell? ((⟨w.heap.size, 0, none⟩ : Addr).add j) = some u := by
  intro j u hj
  match j, hj with
  | 0, hj =>
    simp at hj
    subst hj
    exact (cell_al_eq w #[.int .u8 c] _ w.heap.size 0 rfl).trans rfl
theorem one_cell (c : Int) : ∀ u ∈ [Value.int .u8 c], u.oneCell' = true := by intro u hu; simp at hu; subst hu; rfl
theorem ownB_below {w wr w2 : World} {o : Obj} {g n cap : Nat} (hB : Below w.heap.size w wr) (hg : w.heap.size ≤ g) (hgrow : (wr.alloc o).grownBy w2 (Value.slice (some ⟨g, 0, none⟩) n cap).ownBlock) : Below w.heap.size w w2 := by
  refine (bel_alloc hB _).grown hgrow (by have := hB.size; rw [size_al]; omega) (fun kk hkk => ?_)
  simp [Value.ownBlock] at hkk
  omega
end Go.Proofs.YtfdecbfcddkoiaaGreatDoor
