/-
 Rows of mappings: a part of one; one with a mapping put in; For of a map that has not too much.
-/
import Derived.Test.YtjnakpbobeeclaaGreatDoorChartLm
import Derived.Test.YtjnakpbobeeclaaGreatDoorAppAny
import Derived.Test.YtjnakpbobeeclaaGreatDoorGlobR1
namespace Go.Proofs.YtjnakpbobeeclaaGreatDoor
open Go.RowKit
theorem MapsAt.front {w : World} {a : Option Addr} {n c : Nat} {l : List MapgP} (h : MapsAt w (.slice a n c) l) (hn : l.length = n) (j : Nat) (hj : j ≤ n) : MapsAt w (.slice a j c) (l.take j) := by
 obtain ⟨h1, h2, a', c', e, h3⟩ := h
 simp only [Value.slice.injEq] at e
 obtain ⟨rfl, -, rfl⟩ := e
 have hl : (l.take j).length = j := by rw [List.length_take]; omega
 have hc := h2 _ _ _ rfl
 refine ⟨by omega, fun a n c e => by simp only [Value.slice.injEq] at e; omega, a, c, by rw [hl], fun i x hx => ?_⟩
 have hi := (List.getElem?_eq_some_iff.1 hx).1
 rw [List.getElem?_take_of_lt (by omega)] at hx
 exact h3 i x hx
theorem MapsAt.back {w : World} {a : Option Addr} {n c : Nat} {l : List MapgP} (h : MapsAt w (.slice a n c) l) (hn : l.length = n) (j : Nat) (hj : j ≤ n) : MapsAt w (.slice (if c = j then a else a.map (fun x => x.add (j * 4))) (n - j) (c - j)) (l.drop j) := by
 obtain ⟨h1, h2, a', c', e, h3⟩ := h
 simp only [Value.slice.injEq] at e
 obtain ⟨rfl, -, rfl⟩ := e
 have hl : (l.drop j).length = n - j := by rw [List.length_drop, hn]
 have hc := h2 _ _ _ rfl
 refine ⟨by omega, fun a n c e => by simp only [Value.slice.injEq] at e; omega, _, c - j, by rw [hl], fun i x hx => ?_⟩
 have hi := (List.getElem?_eq_some_iff.1 hx).1
 rw [hl] at hi
 rw [List.getElem?_drop] at hx
 obtain ⟨b, o, u1, u2, ea, c0, c1, c2, c3, r⟩ := h3 (j + i) x hx
 refine ⟨b, o + j * 4, u1, u2, ?_, ?_, ?_, ?_, ?_, r⟩
 · rw [if_neg (by omega), ea, Option.map_some, add_none]
 · rw [show o + j * 4 + i * 4 = o + (j + i) * 4 by omega]; exact c0
 · rw [show o + j * 4 + i * 4 = o + (j + i) * 4 by omega]; exact c1
 · rw [show o + j * 4 + i * 4 = o + (j + i) * 4 by omega]; exact c2
 · rw [show o + j * 4 + i * 4 = o + (j + i) * 4 by omega]; exact c3
theorem behind_row {w w8 wx : World} {nb n2 j m : Nat} {v : Value} {gs : List GX} {g : GX} {xs : List Value} (how : wx.ownsRow w8.heap.size 39 4 v m xs) (hxs : xs = gxCells (gs.take j) ++ g.cells ++ gxCells (gs.drop j)) (hm : m = n2 + 1) (hn : gs.length = n2) (h4 : n2 ≤ 4000) (hg : ∀ g ∈ gs, GxAt w g) (hgg : GxAt w g) (hb : Below w8.heap.size w8 wx) (h08 : Below w.heap.size w w8) (hnb : nb < w8.heap.size) (hw : w.heap.size ≤ nb) :
   ∃ a c, v = .slice a (n2 + 1) c ∧ MapsAt (wx.setCell ⟨nb, 1, none⟩ v) v ((gs.take j ++ g :: gs.drop j).map GX.x) := by
 subst hxs hm
 have hbs : Below w.heap.size w (wx.setCell ⟨nb, 1, none⟩ v) := bel_set (below_more h08 hb) (by show w.heap.size ≤ nb; exact hw) _
 have hlen : (gs.take j ++ g :: gs.drop j).length = n2 + 1 := by
   rw [List.length_append, List.length_cons, List.length_take, List.length_drop]; omega
 have hcs : gxCells (gs.take j ++ g :: gs.drop j) = gxCells (gs.take j) ++ g.cells ++ gxCells (gs.drop j) := by
   rw [gxCells_app, List.append_assoc]
   rfl
 have h1 : (wx.setCell ⟨nb, 1, none⟩ v).ownsRow w8.heap.size 39 4 v (n2 + 1) (gxCells (gs.take j ++ g :: gs.drop j)) := by
   rw [hcs]
   refine how.kept (grown_set (World.grownBy.refl _ _) _ _) (Or.inr (fun e => ?_))
   have := (World.ownsRow.lt how nb e).1
   omega
 exact mapsAt_own hlen h1 (fun y hy => by
   rcases List.mem_append.1 hy with hy | hy
   · exact hg y (List.mem_of_mem_take hy)
   · rcases List.mem_cons.1 hy with rfl | hy
     · exact hgg
     · exact hg y (List.mem_of_mem_drop hy)) hbs (by omega)
theorem xc_a (w : World) {cs : Array Value} {T : TypeId} {i : Nat} {u : Value} (hu : cs[i]? = some u) : (w.alloc (.cells cs T)).cell? ⟨w.heap.size, i, none⟩ = some u := (cell_al_eq w _ _ _ _ rfl).trans hu
theorem xc_b (w : World) (E : Obj) {cs : Array Value} {T : TypeId} {i : Nat} {u : Value} (hu : cs[i]? = some u) : ((w.alloc E).drew.alloc (.cells cs T)).cell? ⟨w.heap.size + 1, i, none⟩ = some u := by
 have h := (cell_al_eq (w.alloc E).drew cs T _ i rfl).trans hu
 rw [show (w.alloc E).drew.heap.size = w.heap.size + 1 from size_al w E] at h
 exact h
theorem xc_c (w : World) (E : Obj) {cs : Array Value} {T : TypeId} {i : Nat} {u : Value} (hu : cs[i]? = some u) : ((w.alloc (.cells cs T)).drew.alloc E).cell? ⟨w.heap.size, i, none⟩ = some u :=
 cell_keep (bel_alloc (Below.refl _ _) E) (show (w.alloc (.cells cs T)).drew.cell? _ = _ from xc_a w hu)
theorem own_c (w : World) (X : Obj) (T : TypeId) : ((w.alloc X).drew.alloc (.cells #[] T)).ownsRow w.heap.size T 4 (.slice (some ⟨w.heap.size + 1, 0, none⟩) 0 0) 0 [] := by
 have h := own_empty (w.alloc X).drew w.heap.size T (show w.heap.size ≤ (w.alloc X).heap.size by rw [size_al]; omega)
 rw [show (w.alloc X).drew.heap.size = w.heap.size + 1 from size_al w X] at h
 exact h
theorem own_d (w : World) (X : Obj) (T : TypeId) : ((w.alloc X).alloc (.cells #[] T)).ownsRow w.heap.size T 4 (.slice (some ⟨w.heap.size + 1, 0, none⟩) 0 0) 0 [] := by
 have h := own_empty (w.alloc X) w.heap.size T (by rw [size_al]; omega)
 rw [size_al w X] at h
 exact h
theorem xc_d (w : World) (E : Obj) {cs : Array Value} {T : TypeId} {i : Nat} {u : Value} (hu : cs[i]? = some u) : ((w.alloc (.cells cs T)).alloc E).cell? ⟨w.heap.size, i, none⟩ = some u :=
 cell_keep (bel_alloc (Below.refl _ _) E) (xc_a w hu)
theorem xc_e (w : World) (E : Obj) {cs : Array Value} {T : TypeId} {i : Nat} {u : Value} (hu : cs[i]? = some u) : ((w.alloc E).alloc (.cells cs T)).cell? ⟨w.heap.size + 1, i, none⟩ = some u := by
 have h := (cell_al_eq (w.alloc E) cs T _ i rfl).trans hu
 rw [size_al w E] at h
 exact h
theorem For_atB (M : MapP) (p : ByteArray) (l : List MapgP) (hl : forV hitB p M.maps = l) (n : Nat) (hn : l.length = n) (v : Value) (W : World) (h : MapAt W v M) (hp : p.size ≤ maxLen) (hf : M.maps.length ≤ 4001) (hf2 : ∀ x ∈ M.maps, x.paths.length ≤ 4000 ∧ x.repos.length ≤ 4000) :
   Calls Tryz.prog 19 #[v, .string p] W fun e w' => Below W.heap.size W w' ∧ ∃ a c, e = .returned (.slice a n c) ∧ MapsAt w' (.slice a n c) l := by
 subst hn hl
 have h1 := For_any M p v W h hp (by omega) (fun x hx => ⟨by have := (hf2 x hx).1; omega, by have := (hf2 x hx).2; omega⟩)
 obtain ⟨a1, c1, a2, c2, rfl, -, hm⟩ := h.parts
 have h2 := hm.thr
 have h3 := forV_len (hit := hitB) (p := p) M.maps
 exact h1.mono fun e w' hf => forPost_at hf (by omega) fun x hx => h2 x (forV_mem hx)
end Go.Proofs.YtjnakpbobeeclaaGreatDoor
