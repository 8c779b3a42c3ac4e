/-
  What is told may be written over: rows of texts that a call has made, and stores into them.
-/
import Derived.Test.YtopepakencpegaaGreatDoorChartLb
import Derived.Test.YtopepakencpegaaGreatDoorSame
namespace Go.Proofs.YtopepakencpegaaGreatDoor
open Go.RowKit

theorem bareA {P : Nat → Bool} {w : World} {V : JV} {v : Value} (h : ValAt (hidden P w) V v) : ValAt w V v := h.imp fun p u hu => ((hidden_cell P w p u).1 hu).2.2
/-- Texts that lie in a call's own memory, apart from a block. -/
def StrsOff (wr : World) (lo hi : Nat) (ob : Option Nat) (a : Option Addr) (n : Nat) : Prop := ∀ k, k < n → ∃ b o s, a = some ⟨b, o, none⟩ ∧ lo ≤ b ∧ b < hi ∧ ob ≠ some b ∧ wr.cell? ⟨b, o + k, none⟩ = some (.string s) ∧ ∃ T cs, BlkAt wr b T cs
theorem StrsOff.set {wr : World} {lo hi : Nat} {ob : Option Nat} {a : Option Addr} {n : Nat} (h : StrsOff wr lo hi ob a n) (pb i : Nat) (t : ByteArray) : StrsOff (wr.setCell ⟨pb, i, none⟩ (.string t)) lo hi ob a n := fun k hk => by
  obtain ⟨b, o, s, e, h1, h2, h3, h4, T, cs, h5⟩ := h k hk
  have h6 : ∃ T cs, BlkAt (wr.setCell ⟨pb, i, none⟩ (.string t)) b T cs := by
    by_cases hb : b = pb
    · subst hb
      exact ⟨T, _, BlkAt.set h5 i _⟩
    · exact ⟨T, cs, BlkAt.set_far h5 (fun e => hb e.symm) i _⟩
  by_cases hp : (⟨pb, i, none⟩ : Addr) = ⟨b, o + k, none⟩
  · refine ⟨b, o, t, e, h1, h2, h3, ?_, h6⟩
    rw [hp]
    exact World.cell?_setCell_same wr _ _ h4
  · exact ⟨b, o, s, e, h1, h2, h3, (World.cell?_setCell_other wr _ _ _ hp).trans h4, h6⟩
theorem StrsOff.keep {w wr : World} {lo hi : Nat} {ob : Option Nat} {a : Option Addr} {n : Nat} (h : StrsOff w lo hi ob a n) (hb : Below w.heap.size w wr) : StrsOff wr lo hi ob a n := fun k hk => by
  obtain ⟨b, o, s, e, h1, h2, h3, h4, T, cs, h5⟩ := h k hk
  exact ⟨b, o, s, e, h1, h2, h3, cell_keep hb h4, T, cs, BlkAt.keep h5 hb⟩
theorem StrsOff.of {w : World} {lo : Nat} {ob : Option Nat} {a : Option Addr} {n c : Nat} {l : List ByteArray} (h : StrsAt (hidden (offB lo ob) w) (.slice a n c) l) (hn : n = l.length) : StrsOff w lo w.heap.size ob a n := fun k hk => by
  obtain ⟨-, -, h3⟩ := h
  rcases h3 with ⟨rfl, _, _, e⟩ | ⟨b, o, cap, e, hc⟩
  · simp at hn; omega
  · simp only [Value.slice.injEq] at e
    obtain ⟨rfl, -, rfl⟩ := e
    obtain ⟨s, hs⟩ : ∃ s, l[k]? = some s := ⟨_, List.getElem?_eq_getElem (by omega)⟩
    obtain ⟨q1, ⟨cs, t, q2⟩, q3⟩ := (hidden_cell _ _ _ _).1 (hc k s hs)
    obtain ⟨r1, r2⟩ := offB_no.1 q1
    exact ⟨b, o, s, rfl, r1, (Array.getElem?_eq_some_iff.1 q2).1, r2, q3, t, cs, q2⟩
/-- Where the writing over stands: only texts of the call's own memory between two marks have changed. -/
def SpI (w w8 wr : World) (lo hi : Nat) (v : Value) (gs : List GX) : Prop := Below w.heap.size w wr ∧ wr.heap.size = w8.heap.size ∧ (∀ k, k < lo ∨ hi ≤ k → wr.heap[k]? = w8.heap[k]?) ∧ wr.ownsRow lo 41 4 v gs.length (gxCells gs) ∧ ∀ g ∈ gs, StrsOff wr lo hi v.ownBlock g.a1 g.x.paths.length ∧ StrsOff wr lo hi v.ownBlock g.a2 g.x.repos.length
theorem SpI.set {w w8 wr : World} {lo hi : Nat} {v : Value} {gs : List GX} (h : SpI w w8 wr lo hi v gs) (hlo : w.heap.size ≤ lo) {b : Nat} (h1 : lo ≤ b) (h2 : b < hi) (h3 : v.ownBlock ≠ some b) (i : Nat) (t : ByteArray) : SpI w w8 (wr.setCell ⟨b, i, none⟩ (.string t)) lo hi v gs :=
  ⟨bel_set h.1 (by show w.heap.size ≤ b; omega) _, by rw [setCell_size]; exact h.2.1, fun k hk => (Below.heap_setCell _ _ _ _ (by show k ≠ b; omega)).trans (h.2.2.1 k hk), row_far h.2.2.2.1 (fun e => h3 e.symm) i _, fun g hg => ⟨((h.2.2.2.2 g hg).1).set _ _ _, ((h.2.2.2.2 g hg).2).set _ _ _⟩⟩
theorem SpI.start {w w5 w8 : World} {lo : Nat} {v : Value} {gs : List GX} (h : MapsOwn w5 lo v gs) (hb : Below w.heap.size w w8) (h58 : Below w5.heap.size w5 w8) : SpI w w8 w8 lo w5.heap.size v gs :=
  ⟨hb, rfl, fun _ _ => rfl, ownsRow_keep h.1 h58, fun g hg => ⟨(StrsOff.of (h.2 g hg).1 rfl).keep h58, (StrsOff.of (h.2 g hg).2 rfl).keep h58⟩⟩
/-- The cells of a mapping in the row. -/
theorem SpI.cells {w w8 wr : World} {lo hi : Nat} {a : Option Addr} {n c : Nat} {gs : List GX} (h : SpI w w8 wr lo hi (.slice a n c) gs) {i : Nat} {g : GX} (hg : gs[i]? = some g) : ∃ gb, a = some ⟨gb, 0, none⟩ ∧ wr.cell? ⟨gb, i * 4, none⟩ = some (.slice g.a1 g.x.paths.length g.c1) ∧ wr.cell? ⟨gb, i * 4 + 1, none⟩ = some (.slice g.a2 g.x.repos.length g.c2) := by
  have hl := (List.getElem?_eq_some_iff.1 hg).1
  obtain ⟨gb, cap, e, -, -⟩ := World.ownsRow.form h.2.2.2.1 (by omega)
  simp only [Value.slice.injEq] at e
  obtain ⟨rfl, -, rfl⟩ := e
  have hcc := World.ownsRow.cells h.2.2.2.1 (g := gb) rfl
  have hadd : ∀ j, (⟨gb, 0, none⟩ : Addr).add j = ⟨gb, j, none⟩ := fun j => by unfold Addr.add; split <;> simp_all
  have hcell : ∀ j u, j < 4 → g.cells[j]? = some u → wr.cell? ⟨gb, i * 4 + j, none⟩ = some u := fun j u hj hu => by
    rw [← hadd]
    exact hcc _ _ ((gxCells_get gs i g hg j hj).trans hu)
  exact ⟨gb, rfl, hcell 0 _ (by omega) rfl, hcell 1 _ (by omega) rfl⟩
theorem MapsAt.carryS {w w' : World} {lo : Nat} {v : Value} {l : List MapgP} (h : MapsAt (hidden (offB lo none) w) v l) (hk : ∀ k, lo ≤ k → w'.heap[k]? = w.heap[k]?) : MapsAt w' v l := h.imp fun p u hu => by
  obtain ⟨q1, -, q3⟩ := (hidden_cell _ _ _ _).1 hu
  exact (World.cell?_of_block (hk _ (offB_none.1 q1))).trans q3
theorem ReposAt.carryS {w w' : World} {lo : Nat} {v : Value} {l : List RepoP} (h : ReposAt (hidden (offB lo none) w) v l) (hk : ∀ k, lo ≤ k → w'.heap[k]? = w.heap[k]?) : ReposAt w' v l := h.imp fun p u hu => by
  obtain ⟨q1, -, q3⟩ := (hidden_cell _ _ _ _).1 hu
  exact (World.cell?_of_block (hk _ (offB_none.1 q1))).trans q3
/-- What For gives, its own memory too. -/
theorem For_own (M : MapP) (p : ByteArray) (l : List MapgP) (hl : forV hitB p M.maps = l) (n : Nat) (hn : l.length = n) (v : Value) (W : World) (h : MapAt W v M) (hp : p.size ≤ maxLen) (hf : FewM M) :
    Calls Tryz.prog 15 #[v, .string p] W fun e w' => Below W.heap.size W w' ∧ ∃ a c gs, e = .returned (.slice a n c) ∧ gs.length = n ∧ gs.map GX.x = l ∧ MapsOwn w' W.heap.size (.slice a n c) gs ∧ MapsAt (hidden (offB W.heap.size none) w') (.slice a n c) l := by
  subst hn hl
  obtain ⟨f1, f2, f3, f4⟩ := hf
  have h1 := For_any M p v W h hp (by omega) (fun x hx => ⟨by have := (f4 x hx).1; omega, by have := (f4 x hx).2; omega⟩)
  obtain ⟨a1, c1, a2, c2, rfl, -, hm⟩ := h.parts
  have h2 := hm.thr
  have h3 := forV_len (hit := hitB) (p := p) M.maps
  refine h1.mono fun e w' hf => ?_
  obtain ⟨a, c, gs, rfl, hb, hm', he, hc⟩ := hf
  have hlen : gs.length = (forV hitB p M.maps).length := by rw [← he, List.length_map]
  have r := hm'.out (by omega) (fun g hg => ⟨hc g hg, h2 g.x (forV_mem (by rw [← he]; exact List.mem_map.2 ⟨g, hg, rfl⟩))⟩)
  rw [he, hlen] at r
  rw [hlen] at hm' ⊢
  exact ⟨hb, a, c, gs, rfl, hlen, he, hm', r⟩
/-- What Of gives, its own memory too. -/
theorem Of_own {M : MapP} {w w' : World} {e : Ending} (h : MapPost (.ok M) w e w') (h1 : M.repos.length ≤ 1000000) (h2 : M.maps.length ≤ 1000000) : Below w.heap.size w w' ∧ ∃ a1 c1 a2 c2 rs gs Bm, e = .returned (.tuple #[.agg #[.slice a1 M.repos.length c1, .slice a2 M.maps.length c2], .int .i64 0]) ∧ w.heap.size ≤ Bm ∧ rs.length = M.repos.length ∧ gs.length = M.maps.length ∧ gs.map GX.x = M.maps ∧ ReposOwn w' w.heap.size (.slice a1 M.repos.length c1) rs ∧ (∀ k, (Value.slice a1 M.repos.length c1).ownBlock = some k → k < Bm) ∧ MapsOwn w' Bm (.slice a2 M.maps.length c2) gs ∧ ReposAt (hidden (offB w.heap.size none) w') (.slice a1 M.repos.length c1) M.repos ∧ MapsAt (hidden (offB w.heap.size none) w') (.slice a2 M.maps.length c2) M.maps := by
  obtain ⟨hb, a1, c1, a2, c2, rs, gs, Bm, rfl, hB, hr, hlt, hm, e1, e2, hg⟩ := h
  have l1 : rs.length = M.repos.length := by rw [← e1, List.length_map]
  have l2 : gs.length = M.maps.length := by rw [← e2, List.length_map]
  have r1 := hr.out (by omega)
  have r2 := hm.out (by omega) (fun g hg' => ⟨(hg g hg').1, by have := (hg g hg').2; omega, by have := (hg g hg').2; omega⟩)
  rw [e1, l1] at r1
  rw [e2, l2] at r2
  rw [l1] at hr hlt ⊢
  rw [l2] at hm ⊢
  refine ⟨hb, a1, c1, a2, c2, rs, gs, Bm, rfl, hB, l1, l2, e2, hr, hlt, hm, r1, r2.imp fun p u hu => ?_⟩
  obtain ⟨q1, q2, q3⟩ := (hidden_cell _ _ _ _).1 hu
  exact (hidden_cell _ _ _ _).2 ⟨offB_none.2 (by have := offB_none.1 q1; omega), q2, q3⟩
/-- The first repository's name. -/
theorem ReposOwn.first {w : World} {B : Nat} {a : Option Addr} {n c : Nat} {rs : List RX} (h : ReposOwn w B (.slice a n c) rs) (hn : n = rs.length) (h0 : 0 < n) : ∃ g s T cs, a = some ⟨g, 0, none⟩ ∧ B ≤ g ∧ g < w.heap.size ∧ w.cell? ⟨g, 0, none⟩ = some (.string s) ∧ BlkAt w g T cs := by
  subst hn
  rcases h.1.2 with ⟨_, e⟩ | ⟨g, cap, cur, e, hB, hcl, hcp, _⟩
  · omega
  · simp only [Value.slice.injEq] at e
    obtain ⟨rfl, -, rfl⟩ := e
    obtain ⟨r, hr⟩ : ∃ r, rs[0]? = some r := ⟨_, List.getElem?_eq_getElem h0⟩
    have hcc := World.ownsRow.cells h.1 (g := g) rfl
    have hadd : (⟨g, 0, none⟩ : Addr).add 0 = ⟨g, 0, none⟩ := rfl
    have h1 := hcc 0 (.string r.r.1) ((rxCells_get rs 0 r hr 0 (by decide)).trans rfl)
    rw [hadd] at h1
    exact ⟨g, r.r.1, _, _, rfl, hB, (Array.getElem?_eq_some_iff.1 hcl).1, h1, hcl⟩
theorem SpI.low {w w8 wr : World} {lo hi : Nat} {v : Value} {gs : List GX} (h : SpI w w8 wr lo hi v gs) {b : Nat} (h1 : w.heap.size ≤ b) (h2 : b < lo) (i : Nat) (t : ByteArray) : SpI w (wr.setCell ⟨b, i, none⟩ (.string t)) (wr.setCell ⟨b, i, none⟩ (.string t)) lo hi v gs :=
  ⟨bel_set h.1 (by show w.heap.size ≤ b; exact h1) _, rfl, fun _ _ => rfl, row_far h.2.2.2.1 (fun e => by
    have := (World.ownsRow.lt h.2.2.2.1 b e.symm).1
    omega) i _, fun g hg => ⟨((h.2.2.2.2 g hg).1).set _ _ _, ((h.2.2.2.2 g hg).2).set _ _ _⟩⟩
/-- Value, whether the map may be or not. -/
theorem cValue_uni (M : MapP) (mb : Bool) (hm : mayM M = mb) (v : Value) (w : World) (h : MapAt w v M) :
    Calls Tryz.prog 22 #[v] w fun e w' => Below w.heap.size w w' ∧ ∃ y : VC, e = .returned (.tuple #[y.val, .int .i64 (if mb = true then 0 else 3)]) ∧ NewV w.heap.size w' (if mb = true then chartJ M else zJ) y.val := by
  refine (cValue_any M v w h).mono fun e w' hv => ?_
  obtain ⟨hb, hv⟩ := hv
  refine ⟨hb, ?_⟩
  rcases hv with ⟨h1, rfl⟩ | ⟨h1, y, rfl, hn⟩
  · rw [hm] at h1
    subst h1
    exact ⟨⟨0, 0, ⟨#[]⟩, none, 0, 0, none, 0, 0⟩, rfl, valAt_leaf _ 0 0 ⟨#[]⟩ (by decide) (by decide) (by decide) (by decide) (by decide)⟩
  · rw [hm] at h1
    subst h1
    exact ⟨y, rfl, hn⟩
end Go.Proofs.YtopepakencpegaaGreatDoor
