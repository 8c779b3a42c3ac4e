/-
  Values of JSON as a tree, and how such a tree lies in memory.
-/
import Derived.Test.YtkflnbmbkilicaaDoorNumBase
namespace Go.Proofs.YtkflnbmbkilicaaDoor
open Go.RowKit

/-- A value: its Kind, N, T, Names and Items. -/
inductive JV where
  | mk (k n : Int) (t : ByteArray) (names : List ByteArray) (items : List JV)

namespace JV
def k : JV → Int | .mk k _ _ _ _ => k
def n : JV → Int | .mk _ n _ _ _ => n
def t : JV → ByteArray | .mk _ _ t _ _ => t
def names : JV → List ByteArray | .mk _ _ _ l _ => l
def items : JV → List JV | .mk _ _ _ _ l => l
theorem eta (v : JV) : v = .mk v.k v.n v.t v.names v.items := by cases v; rfl
theorem size_item {v x : JV} (h : x ∈ v.items) : SizeOf.sizeOf x < SizeOf.sizeOf v := by
  cases v with
  | mk k n t names items =>
    have := List.sizeOf_lt_of_mem h
    simp only [JV.items] at this
    rw [JV.mk.sizeOf_spec]
    omega
end JV

/-- A slice of strings. -/
def StrsAt (w : World) (v : Value) (l : List ByteArray) : Prop :=
  (∀ s ∈ l, s.size ≤ maxLen) ∧ l.length ≤ 9223372036854775807 ∧
  ((l = [] ∧ ∃ a cap, v = .slice a 0 cap) ∨ ∃ b o cap, v = .slice (some ⟨b, o, none⟩) l.length cap ∧ ∀ i s, l[i]? = some s → w.cell? ⟨b, o + i, none⟩ = some (.string s))

mutual
/-- A value as it is handed over: its five cells. -/
def ValAt (w : World) : JV → Value → Prop
  | .mk k n t names items, v => ∃ vn vi, v = .agg #[.int .u8 k, .int .i64 n, .string t, vn, vi] ∧ 0 ≤ k ∧ k ≤ 255 ∧ -9223372036854775808 ≤ n ∧ n ≤ 9223372036854775807 ∧ t.size ≤ maxLen ∧ StrsAt w vn names ∧
      items.length ≤ 9223372036854775807 ∧ ((items = [] ∧ ∃ a cap, vi = .slice a 0 cap) ∨ ∃ b o cap, vi = .slice (some ⟨b, o, none⟩) items.length cap ∧ RowAt w b o items)
/-- Values that lie one behind the other. -/
def RowAt (w : World) (b : Nat) : Nat → List JV → Prop
  | _, [] => True
  | o, x :: r => (∃ c0 c1 c2 c3 c4, w.cell? ⟨b, o, none⟩ = some c0 ∧ w.cell? ⟨b, o + 1, none⟩ = some c1 ∧ w.cell? ⟨b, o + 2, none⟩ = some c2 ∧ w.cell? ⟨b, o + 3, none⟩ = some c3 ∧ w.cell? ⟨b, o + 4, none⟩ = some c4 ∧ ValAt w x (.agg #[c0, c1, c2, c3, c4])) ∧ RowAt w b (o + 5) r
end

/-- A slice of values. -/
def ItemsAt (w : World) (v : Value) (items : List JV) : Prop :=
  items.length ≤ 9223372036854775807 ∧ ((items = [] ∧ ∃ a cap, v = .slice a 0 cap) ∨ ∃ b o cap, v = .slice (some ⟨b, o, none⟩) items.length cap ∧ RowAt w b o items)

theorem valAt_iff {w : World} {V : JV} {v : Value} : ValAt w V v ↔ ∃ vn vi, v = .agg #[.int .u8 V.k, .int .i64 V.n, .string V.t, vn, vi] ∧ 0 ≤ V.k ∧ V.k ≤ 255 ∧ -9223372036854775808 ≤ V.n ∧ V.n ≤ 9223372036854775807 ∧ V.t.size ≤ maxLen ∧ StrsAt w vn V.names ∧ ItemsAt w vi V.items := by
  cases V with
  | mk k n t names items => rw [ValAt]; rfl

theorem RowAt.item {w : World} {b : Nat} : ∀ {items : List JV} {o : Nat}, RowAt w b o items → ∀ {i : Nat} {x : JV}, items[i]? = some x →
    ∃ c0 c1 c2 c3 c4, w.cell? ⟨b, o + i * 5, none⟩ = some c0 ∧ w.cell? ⟨b, o + i * 5 + 1, none⟩ = some c1 ∧ w.cell? ⟨b, o + i * 5 + 2, none⟩ = some c2 ∧ w.cell? ⟨b, o + i * 5 + 3, none⟩ = some c3 ∧ w.cell? ⟨b, o + i * 5 + 4, none⟩ = some c4 ∧ ValAt w x (.agg #[c0, c1, c2, c3, c4])
  | [], _, _, i, x, h => by simp at h
  | y :: r, o, hr, 0, x, h => by
    rw [RowAt] at hr
    simp only [List.getElem?_cons_zero, Option.some.injEq] at h
    subst h
    simpa using hr.1
  | y :: r, o, hr, i + 1, x, h => by
    rw [RowAt] at hr
    obtain ⟨c0, c1, c2, c3, c4, h0, h1, h2, h3, h4, h5⟩ := RowAt.item hr.2 (i := i) (x := x) (by simpa using h)
    have e : o + (i + 1) * 5 = o + 5 + i * 5 := by omega
    refine ⟨c0, c1, c2, c3, c4, ?_, ?_, ?_, ?_, ?_, h5⟩ <;> rw [e] <;> assumption

/-- A slice of strings, opened: the same words whether it is empty or not. -/
theorem StrsAt.parts {w : World} {v : Value} {l : List ByteArray} (h : StrsAt w v l) : ∃ a cap, v = .slice a l.length cap ∧ l.length ≤ 9223372036854775807 ∧ (∀ s ∈ l, s.size ≤ maxLen) ∧ ∀ i s, l[i]? = some s → ∃ b o, a = some ⟨b, o, none⟩ ∧ w.cell? ⟨b, o + i, none⟩ = some (.string s) := by
  obtain ⟨h1, h2, h3⟩ := h
  rcases h3 with ⟨rfl, a, cap, rfl⟩ | ⟨b, o, cap, rfl, hc⟩
  · exact ⟨a, cap, rfl, by simp, h1, fun i s hs => by simp at hs⟩
  · exact ⟨_, cap, rfl, h2, h1, fun i s hs => ⟨b, o, rfl, hc i s hs⟩⟩
/-- A slice of values, opened. -/
theorem ItemsAt.parts {w : World} {v : Value} {l : List JV} (h : ItemsAt w v l) : ∃ a cap, v = .slice a l.length cap ∧ l.length ≤ 9223372036854775807 ∧ ∀ i x, l[i]? = some x → ∃ b o vn vi, a = some ⟨b, o, none⟩ ∧
    w.cell? ⟨b, o + i * 5, none⟩ = some (.int .u8 x.k) ∧ w.cell? ⟨b, o + i * 5 + 1, none⟩ = some (.int .i64 x.n) ∧ w.cell? ⟨b, o + i * 5 + 2, none⟩ = some (.string x.t) ∧ w.cell? ⟨b, o + i * 5 + 3, none⟩ = some vn ∧ w.cell? ⟨b, o + i * 5 + 4, none⟩ = some vi ∧
    0 ≤ x.k ∧ x.k ≤ 255 ∧ -9223372036854775808 ≤ x.n ∧ x.n ≤ 9223372036854775807 ∧ x.t.size ≤ maxLen ∧ StrsAt w vn x.names ∧ ItemsAt w vi x.items := by
  obtain ⟨h1, h2⟩ := h
  rcases h2 with ⟨rfl, a, cap, rfl⟩ | ⟨b, o, cap, rfl, hr⟩
  · exact ⟨a, cap, rfl, by simp, fun i s hs => by simp at hs⟩
  · refine ⟨_, cap, rfl, h1, fun i x hx => ?_⟩
    obtain ⟨c0, c1, c2, c3, c4, e0, e1, e2, e3, e4, hv⟩ := hr.item hx
    obtain ⟨vn, vi, hagg, k0, k1, n0, n1, ht, hns, his⟩ := valAt_iff.1 hv
    simp only [Value.agg.injEq, Array.mk.injEq, List.cons.injEq] at hagg
    obtain ⟨rfl, rfl, rfl, rfl, rfl, -⟩ := hagg
    exact ⟨b, o, _, _, rfl, e0, e1, e2, e3, e4, k0, k1, n0, n1, ht, hns, his⟩
theorem items_lt {l : List JV} {i : Nat} {x : JV} (h : l[i]? = some x) : SizeOf.sizeOf x.items < SizeOf.sizeOf l := by
  have h1 := List.sizeOf_lt_of_mem (List.mem_of_getElem? h)
  have h2 : SizeOf.sizeOf x.items < SizeOf.sizeOf x := by
    cases x with
    | mk k n t names items =>
      simp only [JV.items]
      rw [JV.mk.sizeOf_spec]
      omega
  omega

/-! What lies below a mark stays. -/
theorem cell_lt {w : World} {p : Addr} {v : Value} (h : w.cell? p = some v) : p.block < w.heap.size := by
  rcases Nat.lt_or_ge p.block w.heap.size with h' | h'
  · exact h'
  · rw [World.cell?, Array.getElem?_eq_none h'] at h; cases h
theorem cell_keep {w w' : World} (hb : Below w.heap.size w w') {p : Addr} {v : Value} (h : w.cell? p = some v) : w'.cell? p = some v := by
  rw [hb.cell (cell_lt h)]; exact h
theorem StrsAt.keep {w w' : World} (hb : Below w.heap.size w w') {v : Value} {l : List ByteArray} (h : StrsAt w v l) : StrsAt w' v l := by
  obtain ⟨h1, h2, h3⟩ := h
  refine ⟨h1, h2, ?_⟩
  rcases h3 with h3 | ⟨b, o, cap, hv, hc⟩
  · exact Or.inl h3
  · exact Or.inr ⟨b, o, cap, hv, fun i s hs => cell_keep hb (hc i s hs)⟩
mutual
theorem ValAt.keep {w w' : World} (hb : Below w.heap.size w w') : ∀ {V : JV} {v : Value}, ValAt w V v → ValAt w' V v
  | .mk k n t names items, v, h => by
    rw [ValAt] at h ⊢
    obtain ⟨vn, vi, hv, k0, k1, n0, n1, ht, hn, hl, hi⟩ := h
    refine ⟨vn, vi, hv, k0, k1, n0, n1, ht, hn.keep hb, hl, ?_⟩
    rcases hi with hi | ⟨b, o, cap, hv, hr⟩
    · exact Or.inl hi
    · exact Or.inr ⟨b, o, cap, hv, RowAt.keep hb hr⟩
theorem RowAt.keep {w w' : World} (hb : Below w.heap.size w w') {b : Nat} : ∀ {items : List JV} {o : Nat}, RowAt w b o items → RowAt w' b o items
  | [], _, _ => by rw [RowAt]; trivial
  | x :: r, o, h => by
    rw [RowAt] at h ⊢
    obtain ⟨⟨c0, c1, c2, c3, c4, h0, h1, h2, h3, h4, h5⟩, hr⟩ := h
    exact ⟨⟨c0, c1, c2, c3, c4, cell_keep hb h0, cell_keep hb h1, cell_keep hb h2, cell_keep hb h3, cell_keep hb h4, ValAt.keep hb h5⟩, RowAt.keep hb hr⟩
end
theorem ItemsAt.keep {w w' : World} (hb : Below w.heap.size w w') {v : Value} {l : List JV} (h : ItemsAt w v l) : ItemsAt w' v l := by
  obtain ⟨h1, h2⟩ := h
  refine ⟨h1, ?_⟩
  rcases h2 with h2 | ⟨b, o, cap, hv, hr⟩
  · exact Or.inl h2
  · exact Or.inr ⟨b, o, cap, hv, hr.keep hb⟩
end Go.Proofs.YtkflnbmbkilicaaDoor
