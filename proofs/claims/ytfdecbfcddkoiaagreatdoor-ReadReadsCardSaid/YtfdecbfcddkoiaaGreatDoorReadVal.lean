/-
  Values that a call reads into blocks of its own, while other blocks of its own change: worlds with some blocks hidden.
-/
import Derived.Test.YtfdecbfcddkoiaaGreatDoorBlk
import Derived.Test.YtfdecbfcddkoiaaGreatDoorLexAll
namespace Go.Proofs.YtfdecbfcddkoiaaGreatDoor
open Go.RowKit

/-! What reads as cells in one world reads so in another one that has these cells. -/
theorem StrsAt.imp {w w' : World} (hc : ∀ p v, w.cell? p = some v → w'.cell? p = some v) {v : Value} {l : List ByteArray} (h : StrsAt w v l) : StrsAt w' v l := by
  obtain ⟨h1, h2, h3⟩ := h
  refine ⟨h1, h2, ?_⟩
  rcases h3 with h3 | ⟨b, o, cap, hv, hh⟩
  · exact Or.inl h3
  · exact Or.inr ⟨b, o, cap, hv, fun i s hs => hc _ _ (hh i s hs)⟩
mutual
theorem ValAt.imp {w w' : World} (hc : ∀ p v, w.cell? p = some v → w'.cell? p = some v) : ∀ {V : JV} {v : Value}, ValAt w V v → ValAt w' V v
  | .mk k n t names items, v, h => by
    rw [ValAt] at h ⊢
    obtain ⟨vn, vi, hv, k0, k1, n0, n1, ht, hn, hl, hi⟩ := h
    refine ⟨vn, vi, hv, k0, k1, n0, n1, ht, hn.imp hc, hl, ?_⟩
    rcases hi with hi | ⟨b, o, cap, hv, hr⟩
    · exact Or.inl hi
    · exact Or.inr ⟨b, o, cap, hv, RowAt.imp hc hr⟩
theorem RowAt.imp {w w' : World} (hc : ∀ p v, w.cell? p = some v → w'.cell? p = some v) {b : Nat} : ∀ {items : List JV} {o : Nat}, RowAt w b o items → RowAt w' b o items
  | [], _, _ => by rw [RowAt]; trivial
  | x :: r, o, h => by
    rw [RowAt] at h ⊢
    obtain ⟨⟨c0, c1, c2, c3, c4, h0, h1, h2, h3, h4, h5⟩, hr⟩ := h
    exact ⟨⟨c0, c1, c2, c3, c4, hc _ _ h0, hc _ _ h1, hc _ _ h2, hc _ _ h3, hc _ _ h4, ValAt.imp hc h5⟩, RowAt.imp hc hr⟩
end

/-- A block of which nothing is frozen. -/
def Obj.clean (o : Obj) : Bool := match o with
  | .cells _ _ (0, 0) => true
  | _ => false
theorem Obj.clean_iff {o : Obj} (h : Obj.clean o = true) : ∃ cs t, o = .cells cs t (0, 0) := by
  unfold Obj.clean at h
  split at h
  · exact ⟨_, _, rfl⟩
  · exact absurd h (by simp)
/-- The world without some blocks, and without those of which some is frozen. -/
def hidden (P : Nat → Bool) (w : World) : World := { w with heap := w.heap.mapIdx fun i o => if P i = true ∨ Obj.clean o = false then .cells #[] 0 else o }
theorem hidden_cell (P : Nat → Bool) (w : World) (p : Addr) (v : Value) : (hidden P w).cell? p = some v ↔ P p.block = false ∧ (∃ cs t, w.heap[p.block]? = some (.cells cs t (0, 0))) ∧ w.cell? p = some v := by
  unfold World.cell? hidden
  simp only [Array.getElem?_mapIdx]
  cases h : w.heap[p.block]? with
  | none => simp
  | some o =>
    simp only [Option.map_some]
    by_cases hp : P p.block = true
    · rw [if_pos (Or.inl hp)]; simp [hp]
    · have hp' : P p.block = false := by simpa using hp
      by_cases hc : Obj.clean o = true
      · obtain ⟨cs, t, rfl⟩ := Obj.clean_iff hc
        rw [if_neg (by simp [hp', hc])]
        simp [hp']
      · rw [if_pos (Or.inr (by simpa using hc))]
        have hno : ¬ ∃ cs t, some o = some (Obj.cells cs t (0, 0)) := by
          rintro ⟨cs, t, e⟩
          cases e
          exact hc rfl
        simp only [Array.getElem?_empty, ite_self, reduceCtorEq, false_iff]
        rintro ⟨-, h2, -⟩
        exact hno h2
theorem ValAt.bare {P : Nat → Bool} {w : World} {V : JV} {v : Value} (h : ValAt (hidden P w) V v) : ValAt w V v := h.imp fun p u hu => ((hidden_cell P w p u).1 hu).2.2
/-- Hidden otherwise, in a later world. -/
theorem ValAt.carry {P Q : Nat → Bool} {w w' : World} {V : JV} {v : Value} (h : ValAt (hidden P w) V v) (hk : ∀ k, k < w.heap.size → P k = false → Q k = false ∧ w'.heap[k]? = w.heap[k]?) : ValAt (hidden Q w') V v := by
  refine h.imp fun p u hu => ?_
  obtain ⟨h1, hc, h2⟩ := (hidden_cell P w p u).1 hu
  obtain ⟨h3, h4⟩ := hk p.block (cell_lt h2) h1
  refine (hidden_cell Q w' p u).2 ⟨h3, by rw [h4]; exact hc, ?_⟩
  rw [← h2]
  unfold World.cell?
  rw [h4]

/-! A value's five cells, by their parts. -/
structure VC where
  k : Int
  n : Int
  t : ByteArray
  a : Option Addr
  l : Nat
  c : Nat
  b : Option Addr
  m : Nat
  e : Nat
instance : Inhabited VC := ⟨⟨0, 0, ⟨#[]⟩, none, 0, 0, none, 0, 0⟩⟩
def VC.cells (x : VC) : List Value := [.int .u8 x.k, .int .i64 x.n, .string x.t, .slice x.a x.l x.c, .slice x.b x.m x.e]
def VC.val (x : VC) : Value := .agg #[.int .u8 x.k, .int .i64 x.n, .string x.t, .slice x.a x.l x.c, .slice x.b x.m x.e]
theorem VC.cells_len (x : VC) : x.cells.length = 5 := rfl
theorem VC.cells_one (x : VC) : ∀ v ∈ x.cells, v.oneCell' = true := by
  intro v hv
  simp only [VC.cells, List.mem_cons, List.not_mem_nil, or_false] at hv
  rcases hv with rfl | rfl | rfl | rfl | rfl <;> rfl
theorem valAt_vc {w : World} {V : JV} {v : Value} (h : ValAt w V v) : ∃ x : VC, v = x.val := by
  obtain ⟨vn, vi, rfl, -, -, -, -, -, hn, hi⟩ := valAt_iff.1 h
  obtain ⟨a, c, rfl, -⟩ := hn.parts
  obtain ⟨b, e, rfl, -⟩ := hi.parts
  exact ⟨⟨V.k, V.n, V.t, a, _, c, b, _, e⟩, rfl⟩

/-- Values that have been read, with what they read as. -/
abbrev XI := VC × JV
def xiCells (xs : List XI) : List Value := xs.flatMap fun x => x.1.cells
theorem xiCells_snoc (xs : List XI) (x : XI) : xiCells (xs ++ [x]) = xiCells xs ++ x.1.cells := by simp [xiCells]
theorem xiCells_len (xs : List XI) : (xiCells xs).length = xs.length * 5 := by
  induction xs with
  | nil => rfl
  | cons m r ih => simp only [xiCells, List.flatMap_cons, List.length_append, List.length_cons] at *; rw [ih, VC.cells_len]; omega
theorem xiCells_get : ∀ (xs : List XI) (i : Nat) (x : XI), xs[i]? = some x → ∀ j, j < 5 → (xiCells xs)[i * 5 + j]? = x.1.cells[j]?
  | [], i, x, h, _, _ => by simp at h
  | y :: r, 0, x, h, j, hj => by
    simp at h; subst h
    show (y.1.cells ++ xiCells r)[0 * 5 + j]? = _
    rw [Nat.zero_mul, Nat.zero_add, List.getElem?_append_left (by rw [VC.cells_len]; omega)]
  | y :: r, i + 1, x, h, j, hj => by
    show (y.1.cells ++ xiCells r)[(i + 1) * 5 + j]? = _
    rw [List.getElem?_append_right (by rw [VC.cells_len]; omega), ← xiCells_get r i x (by simpa using h) j hj, VC.cells_len]
    congr 1
    omega
theorem rowAt_xi {w : World} {g : Nat} : ∀ (xs : List XI) (o : Nat), (∀ i x, xs[i]? = some x → ∀ j c, x.1.cells[j]? = some c → w.cell? ⟨g, o + i * 5 + j, none⟩ = some c) → (∀ x ∈ xs, ValAt w x.2 x.1.val) → RowAt w g o (xs.map Prod.snd)
  | [], _, _, _ => rowAt_nil _ _ _
  | x :: r, o, hc, hv => by
    have h0 := fun j c hj => hc 0 x rfl j c hj
    simp only [Nat.zero_mul, Nat.add_zero] at h0
    refine rowAt_cons (hv x (by simp)) (h0 0 _ rfl) (h0 1 _ rfl) (h0 2 _ rfl) (h0 3 _ rfl) (h0 4 _ rfl) (rowAt_xi r (o + 5) (fun i y hy j c hj => ?_) (fun y hy => hv y (by simp [hy])))
    have := hc (i + 1) y (by simpa using hy) j c hj
    rw [show o + (i + 1) * 5 + j = o + 5 + i * 5 + j by omega] at this
    exact this

/-- Blocks below a mark, and one more. -/
def offB (B : Nat) (g : Option Nat) (k : Nat) : Bool := decide (k < B) || decide (g = some k)
theorem offB_none {B k : Nat} : offB B none k = false ↔ B ≤ k := by simp [offB]
theorem offB_no {B k : Nat} {g : Option Nat} : offB B g k = false ↔ B ≤ k ∧ g ≠ some k := by simp [offB]
/-- A value whose cells lie in blocks from a mark on. -/
def NewV (B : Nat) (w : World) (V : JV) (v : Value) : Prop := ValAt (hidden (offB B none) w) V v
/-- A row of values of the call's own. -/
def ItemsOwn (w : World) (B : Nat) (v : Value) (xs : List XI) : Prop := w.ownsRow B 26 5 v xs.length (xiCells xs) ∧ ∀ x ∈ xs, ValAt (hidden (offB B v.ownBlock) w) x.2 x.1.val
theorem ItemsOwn.nil (w : World) (B : Nat) : ItemsOwn w B (.slice none 0 0) [] := ⟨World.ownsRow_nil _ _ _ _, by simp⟩
theorem ItemsOwn.kept {w w' : World} {B r : Nat} {v : Value} {xs : List XI} (h : ItemsOwn w B v xs) (hr : r < B) (hg : w.grownBy w' (some r)) : ItemsOwn w' B v xs := by
  refine ⟨?_, fun x hx => (h.2 x hx).carry fun k hk hP => ⟨hP, hg.block k hk (fun e => ?_)⟩⟩
  · cases hv : v.ownBlock with
    | none => exact h.1.kept hg (Or.inl hv)
    | some g =>
      refine h.1.kept hg (Or.inr ?_)
      rw [hv]
      intro e
      have := (World.ownsRow.lt h.1 g hv).1
      cases e
      omega
  · have := (offB_no.1 hP).1
    cases e
    omega
theorem ItemsOwn.out {w : World} {B : Nat} {v : Value} {xs : List XI} (h : ItemsOwn w B v xs) (hl : xs.length ≤ 9223372036854775807) : ItemsAt (hidden (offB B none) w) v (xs.map Prod.snd) := by
  have h' := h.1
  refine ⟨by rw [List.length_map]; exact hl, ?_⟩
  rcases h.1.2 with ⟨rfl, h0⟩ | ⟨g, cap, cur, rfl, hB, hcl, _⟩
  · left
    have : xs = [] := List.length_eq_zero_iff.1 h0
    subst this
    exact ⟨rfl, _, _, rfl⟩
  · right
    refine ⟨g, 0, cap, by rw [List.length_map], rowAt_xi xs 0 (fun i x hx j c hj => ?_) (fun x hx => (h.2 x hx).carry fun k hk hP => ⟨offB_none.2 (offB_no.1 hP).1, rfl⟩)⟩
    have hc := World.ownsRow.cells h' (g := g) rfl
    have hadd : ∀ j, (⟨g, 0, none⟩ : Addr).add j = ⟨g, j, none⟩ := fun j => by unfold Addr.add; split <;> simp_all
    refine (hidden_cell _ _ _ _).2 ⟨offB_none.2 hB, ⟨_, _, hcl⟩, ?_⟩
    have hj5 : j < 5 := by
      have := (List.getElem?_eq_some_iff.1 hj).1
      rwa [VC.cells_len] at this
    rw [show 0 + i * 5 + j = i * 5 + j by omega, ← hadd]
    exact hc _ _ ((xiCells_get xs i x hx j hj5).trans hj)
end Go.Proofs.YtfdecbfcddkoiaaGreatDoor
