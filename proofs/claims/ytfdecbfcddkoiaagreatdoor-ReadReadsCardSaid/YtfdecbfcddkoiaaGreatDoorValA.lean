/-
  Values of JSON as a tree, and how such a tree lies in memory.
  How much values have (the laws' own guard): legatelaw08.size and Long.
  Values that a call lays out in memory itself: cells of new blocks, and what they read as.
-/
import Derived.Test.YtfdecbfcddkoiaaGreatDoorNumA
namespace Go.Proofs.YtfdecbfcddkoiaaGreatDoor
section
open Go.RowKit

/-- A value: its Kind, N, T, Names and Items. -/
inductive JV where
  | mk (k n : Int) (t : ByteArray) (names : List ByteArray) (items : List JV)

namespace JV
def k : JV → Int | .mk k _ _ _ _ => k
def n : JV → Int | .mk _ n _ _ _ => n
def t : JV → ByteArray | .mk _ _ t _ _ => t
def names : JV → List ByteArray | .mk _ _ _ l _ => l
def items : JV → List JV | .mk _ _ _ _ l => l
theorem eta (v : JV) : v = .mk v.k v.n v.t v.names v.items := by cases v; rfl
theorem size_item {v x : JV} (h : x ∈ v.items) : SizeOf.sizeOf x < SizeOf.sizeOf v := by
  cases v with
  | mk k n t names items =>
    have := List.sizeOf_lt_of_mem h
    simp only [JV.items] at this
    rw [JV.mk.sizeOf_spec]
    omega
end JV

/-- A slice of strings. -/
def StrsAt (w : World) (v : Value) (l : List ByteArray) : Prop :=
  (∀ s ∈ l, s.size ≤ maxLen) ∧ l.length ≤ 9223372036854775807 ∧
  ((l = [] ∧ ∃ a cap, v = .slice a 0 cap) ∨ ∃ b o cap, v = .slice (some ⟨b, o, none⟩) l.length cap ∧ ∀ i s, l[i]? = some s → w.cell? ⟨b, o + i, none⟩ = some (.string s))

mutual
/-- A value as it is handed over: its five cells. -/
def ValAt (w : World) : JV → Value → Prop
  | .mk k n t names items, v => ∃ vn vi, v = .agg #[.int .u8 k, .int .i64 n, .string t, vn, vi] ∧ 0 ≤ k ∧ k ≤ 255 ∧ -9223372036854775808 ≤ n ∧ n ≤ 9223372036854775807 ∧ t.size ≤ maxLen ∧ StrsAt w vn names ∧
      items.length ≤ 9223372036854775807 ∧ ((items = [] ∧ ∃ a cap, vi = .slice a 0 cap) ∨ ∃ b o cap, vi = .slice (some ⟨b, o, none⟩) items.length cap ∧ RowAt w b o items)
/-- Values that lie one behind the other. -/
def RowAt (w : World) (b : Nat) : Nat → List JV → Prop
  | _, [] => True
  | o, x :: r => (∃ c0 c1 c2 c3 c4, w.cell? ⟨b, o, none⟩ = some c0 ∧ w.cell? ⟨b, o + 1, none⟩ = some c1 ∧ w.cell? ⟨b, o + 2, none⟩ = some c2 ∧ w.cell? ⟨b, o + 3, none⟩ = some c3 ∧ w.cell? ⟨b, o + 4, none⟩ = some c4 ∧ ValAt w x (.agg #[c0, c1, c2, c3, c4])) ∧ RowAt w b (o + 5) r
end

/-- A slice of values. -/
def ItemsAt (w : World) (v : Value) (items : List JV) : Prop :=
  items.length ≤ 9223372036854775807 ∧ ((items = [] ∧ ∃ a cap, v = .slice a 0 cap) ∨ ∃ b o cap, v = .slice (some ⟨b, o, none⟩) items.length cap ∧ RowAt w b o items)

theorem valAt_iff {w : World} {V : JV} {v : Value} : ValAt w V v ↔ ∃ vn vi, v = .agg #[.int .u8 V.k, .int .i64 V.n, .string V.t, vn, vi] ∧ 0 ≤ V.k ∧ V.k ≤ 255 ∧ -9223372036854775808 ≤ V.n ∧ V.n ≤ 9223372036854775807 ∧ V.t.size ≤ maxLen ∧ StrsAt w vn V.names ∧ ItemsAt w vi V.items := by
  cases V with
  | mk k n t names items => rw [ValAt]; rfl

theorem RowAt.item {w : World} {b : Nat} : ∀ {items : List JV} {o : Nat}, RowAt w b o items → ∀ {i : Nat} {x : JV}, items[i]? = some x →
    ∃ c0 c1 c2 c3 c4, w.cell? ⟨b, o + i * 5, none⟩ = some c0 ∧ w.cell? ⟨b, o + i * 5 + 1, none⟩ = some c1 ∧ w.cell? ⟨b, o + i * 5 + 2, none⟩ = some c2 ∧ w.cell? ⟨b, o + i * 5 + 3, none⟩ = some c3 ∧ w.cell? ⟨b, o + i * 5 + 4, none⟩ = some c4 ∧ ValAt w x (.agg #[c0, c1, c2, c3, c4])
  | [], _, _, i, x, h => by simp at h
  | y :: r, o, hr, 0, x, h => by
    rw [RowAt] at hr
    simp only [List.getElem?_cons_zero, Option.some.injEq] at h
    subst h
    simpa using hr.1
  | y :: r, o, hr, i + 1, x, h => by
    rw [RowAt] at hr
    obtain ⟨c0, c1, c2, c3, c4, h0, h1, h2, h3, h4, h5⟩ := RowAt.item hr.2 (i := i) (x := x) (by simpa using h)
    have e : o + (i + 1) * 5 = o + 5 + i * 5 := by omega
    refine ⟨c0, c1, c2, c3, c4, ?_, ?_, ?_, ?_, ?_, h5⟩ <;> rw [e] <;> assumption

/-- A slice of strings, opened: the same words whether it is empty or not. -/
theorem StrsAt.parts {w : World} {v : Value} {l : List ByteArray} (h : StrsAt w v l) : ∃ a cap, v = .slice a l.length cap ∧ l.length ≤ 9223372036854775807 ∧ (∀ s ∈ l, s.size ≤ maxLen) ∧ ∀ i s, l[i]? = some s → ∃ b o, a = some ⟨b, o, none⟩ ∧ w.cell? ⟨b, o + i, none⟩ = some (.string s) := by
  obtain ⟨h1, h2, h3⟩ := h
  rcases h3 with ⟨rfl, a, cap, rfl⟩ | ⟨b, o, cap, rfl, hc⟩
  · exact ⟨a, cap, rfl, by simp, h1, fun i s hs => by simp at hs⟩
  · exact ⟨_, cap, rfl, h2, h1, fun i s hs => ⟨b, o, rfl, hc i s hs⟩⟩
/-- A slice of values, opened. -/
theorem ItemsAt.parts {w : World} {v : Value} {l : List JV} (h : ItemsAt w v l) : ∃ a cap, v = .slice a l.length cap ∧ l.length ≤ 9223372036854775807 ∧ ∀ i x, l[i]? = some x → ∃ b o vn vi, a = some ⟨b, o, none⟩ ∧
    w.cell? ⟨b, o + i * 5, none⟩ = some (.int .u8 x.k) ∧ w.cell? ⟨b, o + i * 5 + 1, none⟩ = some (.int .i64 x.n) ∧ w.cell? ⟨b, o + i * 5 + 2, none⟩ = some (.string x.t) ∧ w.cell? ⟨b, o + i * 5 + 3, none⟩ = some vn ∧ w.cell? ⟨b, o + i * 5 + 4, none⟩ = some vi ∧
    0 ≤ x.k ∧ x.k ≤ 255 ∧ -9223372036854775808 ≤ x.n ∧ x.n ≤ 9223372036854775807 ∧ x.t.size ≤ maxLen ∧ StrsAt w vn x.names ∧ ItemsAt w vi x.items := by
  obtain ⟨h1, h2⟩ := h
  rcases h2 with ⟨rfl, a, cap, rfl⟩ | ⟨b, o, cap, rfl, hr⟩
  · exact ⟨a, cap, rfl, by simp, fun i s hs => by simp at hs⟩
  · refine ⟨_, cap, rfl, h1, fun i x hx => ?_⟩
    obtain ⟨c0, c1, c2, c3, c4, e0, e1, e2, e3, e4, hv⟩ := hr.item hx
    obtain ⟨vn, vi, hagg, k0, k1, n0, n1, ht, hns, his⟩ := valAt_iff.1 hv
    simp only [Value.agg.injEq, Array.mk.injEq, List.cons.injEq] at hagg
    obtain ⟨rfl, rfl, rfl, rfl, rfl, -⟩ := hagg
    exact ⟨b, o, _, _, rfl, e0, e1, e2, e3, e4, k0, k1, n0, n1, ht, hns, his⟩
theorem items_lt {l : List JV} {i : Nat} {x : JV} (h : l[i]? = some x) : SizeOf.sizeOf x.items < SizeOf.sizeOf l := by
  have h1 := List.sizeOf_lt_of_mem (List.mem_of_getElem? h)
  have h2 : SizeOf.sizeOf x.items < SizeOf.sizeOf x := by
    cases x with
    | mk k n t names items =>
      simp only [JV.items]
      rw [JV.mk.sizeOf_spec]
      omega
  omega

/-! What lies below a mark stays. -/
theorem cell_lt {w : World} {p : Addr} {v : Value} (h : w.cell? p = some v) : p.block < w.heap.size := by
  rcases Nat.lt_or_ge p.block w.heap.size with h' | h'
  · exact h'
  · rw [World.cell?, Array.getElem?_eq_none h'] at h; cases h
theorem cell_keep {w w' : World} (hb : Below w.heap.size w w') {p : Addr} {v : Value} (h : w.cell? p = some v) : w'.cell? p = some v := by
  rw [hb.cell (cell_lt h)]; exact h
theorem StrsAt.keep {w w' : World} (hb : Below w.heap.size w w') {v : Value} {l : List ByteArray} (h : StrsAt w v l) : StrsAt w' v l := by
  obtain ⟨h1, h2, h3⟩ := h
  refine ⟨h1, h2, ?_⟩
  rcases h3 with h3 | ⟨b, o, cap, hv, hc⟩
  · exact Or.inl h3
  · exact Or.inr ⟨b, o, cap, hv, fun i s hs => cell_keep hb (hc i s hs)⟩
mutual
theorem ValAt.keep {w w' : World} (hb : Below w.heap.size w w') : ∀ {V : JV} {v : Value}, ValAt w V v → ValAt w' V v
  | .mk k n t names items, v, h => by
    rw [ValAt] at h ⊢
    obtain ⟨vn, vi, hv, k0, k1, n0, n1, ht, hn, hl, hi⟩ := h
    refine ⟨vn, vi, hv, k0, k1, n0, n1, ht, hn.keep hb, hl, ?_⟩
    rcases hi with hi | ⟨b, o, cap, hv, hr⟩
    · exact Or.inl hi
    · exact Or.inr ⟨b, o, cap, hv, RowAt.keep hb hr⟩
theorem RowAt.keep {w w' : World} (hb : Below w.heap.size w w') {b : Nat} : ∀ {items : List JV} {o : Nat}, RowAt w b o items → RowAt w' b o items
  | [], _, _ => by rw [RowAt]; trivial
  | x :: r, o, h => by
    rw [RowAt] at h ⊢
    obtain ⟨⟨c0, c1, c2, c3, c4, h0, h1, h2, h3, h4, h5⟩, hr⟩ := h
    exact ⟨⟨c0, c1, c2, c3, c4, cell_keep hb h0, cell_keep hb h1, cell_keep hb h2, cell_keep hb h3, cell_keep hb h4, ValAt.keep hb h5⟩, RowAt.keep hb hr⟩
end
theorem ItemsAt.keep {w w' : World} (hb : Below w.heap.size w w') {v : Value} {l : List JV} (h : ItemsAt w v l) : ItemsAt w' v l := by
  obtain ⟨h1, h2⟩ := h
  refine ⟨h1, ?_⟩
  rcases h2 with h2 | ⟨b, o, cap, hv, hr⟩
  · exact Or.inl h2
  · exact Or.inr ⟨b, o, cap, hv, hr.keep hb⟩
end

section
open Go.RowKit

mutual
/-- How much a value has. -/
def wt : JV → Nat
  | .mk _ _ t names items => 4 + t.size + (names.map fun s => 2 + s.size).sum + wtL items
def wtL : List JV → Nat
  | [] => 0
  | x :: r => wt x + wtL r
end
def wtN (names : List ByteArray) : Nat := (names.map fun s => 2 + s.size).sum
theorem wt_eq (x : JV) : wt x = 4 + x.t.size + wtN x.names + wtL x.items := by cases x; rfl
theorem wtL_append (a b : List JV) : wtL (a ++ b) = wtL a + wtL b := by
  induction a with
  | nil => simp [wtL]
  | cons x r ih => simp only [List.cons_append, wtL, ih]; omega
theorem wtL_step {items : List JV} {j : Nat} {x : JV} (h : items[j]? = some x) : wtL (items.take (j + 1)) = wtL (items.take j) + wt x := by
  rw [List.take_add_one, h, wtL_append]; simp [wtL]
theorem wtN_step {l : List ByteArray} {j : Nat} {x : ByteArray} (h : l[j]? = some x) : wtN (l.take (j + 1)) = wtN (l.take j) + (2 + x.size) := by
  rw [List.take_add_one, h, wtN, wtN, List.map_append, List.sum_append]; simp

/-- What size answers: below 20000 it is how much there is. -/
def SizePost (items : List JV) (deep : Int) (w : World) (e : Ending) (w' : World) : Prop :=
  ∃ r : Int, e = .returned (.int .i64 r) ∧ 0 ≤ r ∧ r ≤ 50000 * (203 - deep) ∧ (r < 20000 → (wtL items : Int) = r) ∧ w = w'

set_option maxRecDepth 100000 in
set_option maxHeartbeats 2000000 in
theorem size_any (N : Nat) : ∀ (items : List JV) (v : Value) (deep : Int) (w : World), SizeOf.sizeOf items < N → ItemsAt w v items → 0 ≤ deep → deep ≤ 201 →
    Calls Tryz.prog 16 #[v, .int .i64 deep] w (SizePost items deep w) := by
  induction N with
  | zero => intro items v deep w h; omega
  | succ N ih =>
    intro items v deep w hN hI d0 d1
    have HI := Lib.hid ih
    clear ih
    obtain ⟨a, cap, rfl, hl, hI⟩ := hI.parts
    have Hit := Lib.hid hI
    clear hI
    obtain ⟨len, hlen⟩ : ∃ n, items.length = n := ⟨_, rfl⟩
    rw [hlen] at hl ⊢
    have HL := Lib.hid hlen
    clear hlen
    go_enter Tryz.func16, Tryz.ntmps16
    go_wp2_with fail
    go_loop [5, 6] (fun n i => ∃ (j : Nat) (m : Int), j ≤ len ∧ i = .int .i64 j ∧ n = .int .i64 m ∧ 0 ≤ m ∧ m ≤ 50000 * (203 - deep) ∧ Hid (m < 20000 → (wtL (items.take j) : Int) = m)) (fun _ i => len - (intOf i).toNat)
    case atStart => exact ⟨0, 0, by omega, rfl, rfl, by omega, by omega, fun _ => by simp [wtL]⟩
    case round =>
      obtain ⟨j, m, hj, rfl, rfl, m0, m1, HM⟩ := hrel
      by_cases hjl : j < len
      · by_cases hm : m < 20000
        · obtain ⟨x, hx⟩ : ∃ x, items[j]? = some x := ⟨_, List.getElem?_eq_getElem (by rw [HL.out]; exact hjl)⟩
          obtain ⟨b, o, vn, vi, rfl, h0, h1, h2, h3, h4, k0, k1, n0, n1, ht, hns, his⟩ := Hit.out j x hx
          obtain ⟨an, ncap, rfl, hnl, hnm, hnc⟩ := hns.parts
          have Hx := Lib.hid hx
          have Hnc := Lib.hid hnc
          have Hnm := Lib.hid hnm
          clear hx hns hnc hnm k0 k1 n0 n1 h0 h1
          unfold maxLen at ht
          have HMx := HM.out hm
          obtain ⟨nlen, hnlen⟩ : ∃ n, x.names.length = n := ⟨_, rfl⟩
          rw [hnlen] at h3 hnl
          have HNL := Lib.hid hnlen
          have HMX := Lib.hid HMx
          clear hnlen HMx
          by_cases ht2 : x.t.size < 20000
          all_goals
            go_wp2_with fail
            go_loop [5, 7] (fun n i => ∃ (kk : Nat) (m2 : Int), kk ≤ nlen ∧ i = .int .i64 kk ∧ n = .int .i64 m2 ∧ 0 ≤ m2 ∧ m2 ≤ 40006 ∧ Hid (m2 < 20000 → m2 = m + 4 + x.t.size + wtN (x.names.take kk))) (fun _ i => nlen - (intOf i).toNat)
            case atStart =>
              refine ⟨0, _, by omega, rfl, rfl, by omega, by omega, fun h => ?_⟩
              simp only [List.take_zero, wtN, List.map_nil, List.sum_nil]
              omega
            case round =>
              obtain ⟨kk, m2, hkk, rfl, rfl, g0, g1, HG⟩ := hrel
              by_cases hkl : kk < nlen
              · by_cases hm2 : m2 < 20000
                · obtain ⟨s, hs⟩ : ∃ s, x.names[kk]? = some s := ⟨_, List.getElem?_eq_getElem (by rw [HNL.out]; exact hkl)⟩
                  obtain ⟨nb, no_, rfl, hcell⟩ := Hnc.out kk s hs
                  have hsz : s.size ≤ 9223372036854775807 := Hnm.out s (List.mem_of_getElem? hs)
                  have HG2 := HG.out hm2
                  have hst := wtN_step hs
                  have HS : Hid (m2 + 2 + s.size = m + 4 + x.t.size + wtN (x.names.take (kk + 1))) := by show _ = _; rw [hst]; omega
                  clear hs HG2 hst
                  by_cases hs2 : s.size < 20000
                  all_goals
                    go_wp2_with fail
                    refine ⟨⟨kk + 1, _, by omega, by go_num, rfl, by omega, by omega, fun h => ?_⟩, ?_⟩
                    · have := HS.out
                      omega
                    · simp [intOf]; omega
                · have HR : Hid (m2 < 20000 → m2 = m + 4 + x.t.size + wtN x.names) := fun h => absurd h hm2
                  clear HG
                  by_cases hdeep : 200 < deep
                  · go_wp2_with fail
                    go_ret
                    exact ⟨20000, rfl, by omega, by omega, fun h => by omega, rfl⟩
                  · go_wp2_with fail
                    refine (HI.out x.items vi (deep + 1) _ (by have := items_lt Hx.out; omega) his (by omega) (by omega)).mono ?_
                    rintro e w' ⟨r, rfl, r0, r1, hr, rfl⟩
                    have HRR := Lib.hid hr
                    clear hr
                    go_wp2_with fail
                    refine ⟨⟨j + 1, _, by omega, by go_num, rfl, by omega, by omega, fun h => ?_⟩, ?_⟩
                    · rw [wtL_step Hx.out, wt_eq]
                      have e1 := HRR.out (by omega)
                      have e2 := HR.out (by omega)
                      have e3 := HMX.out
                      omega
                    · simp [intOf]; omega
              · have HR : Hid (m2 < 20000 → m2 = m + 4 + x.t.size + wtN x.names) := fun h => by
                  have := HG.out h
                  rwa [List.take_of_length_le (by rw [HNL.out]; omega)] at this
                clear HG
                by_cases hdeep : 200 < deep
                · go_wp2_with fail
                  go_ret
                  exact ⟨20000, rfl, by omega, by omega, fun h => by omega, rfl⟩
                · go_wp2_with fail
                  refine (HI.out x.items vi (deep + 1) _ (by have := items_lt Hx.out; omega) his (by omega) (by omega)).mono ?_
                  rintro e w' ⟨r, rfl, r0, r1, hr, rfl⟩
                  have HRR := Lib.hid hr
                  clear hr
                  go_wp2_with fail
                  refine ⟨⟨j + 1, _, by omega, by go_num, rfl, by omega, by omega, fun h => ?_⟩, ?_⟩
                  · rw [wtL_step Hx.out, wt_eq]
                    have e1 := HRR.out (by omega)
                    have e2 := HR.out (by omega)
                    have e3 := HMX.out
                    omega
                  · simp [intOf]; omega
        · have hbad : m < 20000 → (wtL items : Int) = m := fun h => absurd h hm
          have HB := Lib.hid hbad
          clear hbad
          go_wp2_with fail
          go_ret
          exact ⟨m, rfl, m0, m1, HB.out, rfl⟩
      · have hall : m < 20000 → (wtL items : Int) = m := fun h => by
          have := HM.out h
          rwa [List.take_of_length_le (by rw [HL.out]; omega)] at this
        have HB := Lib.hid hall
        clear hall
        go_wp2_with fail
        go_ret
        exact ⟨m, rfl, m0, m1, HB.out, rfl⟩

/-- Long: if it says no, there is less than 20000 in all. -/
def LongPost (items : List JV) (w : World) (e : Ending) (w' : World) : Prop :=
  ∃ r : Bool, e = .returned (.bool r) ∧ (r = false → wtL items < 20000) ∧ w = w'
set_option maxHeartbeats 400000 in
theorem long_any (items : List JV) (v : Value) (w : World) (h : ItemsAt w v items) :
    Calls Tryz.prog 9 #[v] w (LongPost items w) := by
  go_enter Tryz.func9, Tryz.ntmps9
  go_wp2_with fail
  refine (size_any _ items v 0 _ (Nat.lt_succ_self _) h (by omega) (by omega)).mono ?_
  rintro e w' ⟨r, rfl, r0, r1, hr, rfl⟩
  have HR := Lib.hid hr
  clear hr
  go_wp2_with fail
  go_ret
  refine ⟨_, rfl, fun h => ?_, rfl⟩
  have h2 : r < 20000 := by simpa using h
  have := HR.out h2
  omega
end

section
open Go.RowKit

theorem bcell {W w1 : World} (hb : Below W.heap.size W w1) : (∀ b o, b < W.heap.size → w1.cell? ⟨b, o, none⟩ = W.cell? ⟨b, o, none⟩) ∧ (∀ b o, b < W.heap.size → w1.frozen? ⟨b, o, none⟩ = W.frozen? ⟨b, o, none⟩) :=
  ⟨fun b o h => hb.cell (p := ⟨b, o, none⟩) h, fun b o h => hb.frozen (p := ⟨b, o, none⟩) h⟩
theorem bel_alloc {a b : World} (h : Below a.heap.size a b) (o : Obj) : Below a.heap.size a (b.alloc o) := h.alloc h.size o
theorem bel_drew {a b : World} (h : Below a.heap.size a b) : Below a.heap.size a b.drew := ⟨h.os, h.tape, h.output, h.size, h.block⟩
theorem bel_drewN {a b : World} (h : Below a.heap.size a b) (n : Nat) : Below a.heap.size a (b.drewN n) := ⟨h.os, h.tape, h.output, h.size, h.block⟩
theorem bel_set {a b : World} (h : Below a.heap.size a b) {p : Addr} (hp : a.heap.size ≤ p.block) (v : Value) : Below a.heap.size a (b.setCell p v) := h.setCell hp v
theorem cell_al_eq (w : World) (cs : Array Value) (t : TypeId) (b i : Nat) (h : b = w.heap.size) : (w.alloc (.cells cs t)).cell? ⟨b, i, none⟩ = cs[i]? := by
  subst h
  have hh : (w.alloc (.cells cs t)).heap[w.heap.size]? = some (.cells cs t) := by
    show (w.heap.push (.cells cs t))[w.heap.size]? = _
    simp
  unfold World.cell?
  simp only [hh]
  rfl
theorem cell_al_lt (w : World) (o : Obj) (b i : Nat) (h : b < w.heap.size) : (w.alloc o).cell? ⟨b, i, none⟩ = w.cell? ⟨b, i, none⟩ := World.cell?_alloc_lt w o ⟨b, i, none⟩ h
theorem cell_dr (w : World) (p : Addr) : w.drew.cell? p = w.cell? p := rfl
theorem cell_drN (w : World) (n : Nat) (p : Addr) : (w.drewN n).cell? p = w.cell? p := rfl
theorem size_al (w : World) (o : Obj) : (w.alloc o).heap.size = w.heap.size + 1 := by show (w.heap.push o).size = _; simp
theorem size_dr (w : World) : w.drew.heap.size = w.heap.size := rfl
theorem size_drN (w : World) (n : Nat) : (w.drewN n).heap.size = w.heap.size := rfl

theorem strsAt_nil (w : World) : StrsAt w (.slice none 0 0) [] := ⟨by simp, by simp, Or.inl ⟨rfl, _, _, rfl⟩⟩
theorem strsAt_of {w : World} {b o cap : Nat} {l : List ByteArray} (hl : l.length ≤ 9223372036854775807) (hm : ∀ s ∈ l, s.size ≤ maxLen) (hc : ∀ i s, l[i]? = some s → w.cell? ⟨b, o + i, none⟩ = some (.string s)) {n : Nat} (hn : n = l.length) :
    StrsAt w (.slice (some ⟨b, o, none⟩) n cap) l := by
  subst hn
  exact ⟨hm, hl, Or.inr ⟨b, o, cap, rfl, hc⟩⟩
theorem itemsAt_nil (w : World) : ItemsAt w (.slice none 0 0) [] := ⟨by simp, Or.inl ⟨rfl, _, _, rfl⟩⟩
theorem itemsAt_of {w : World} {b o cap : Nat} {l : List JV} (hl : l.length ≤ 9223372036854775807) (hr : RowAt w b o l) {n : Nat} (hn : n = l.length) : ItemsAt w (.slice (some ⟨b, o, none⟩) n cap) l := by
  subst hn
  exact ⟨hl, Or.inr ⟨b, o, cap, rfl, hr⟩⟩
theorem rowAt_nil (w : World) (b o : Nat) : RowAt w b o [] := by rw [RowAt]; trivial
theorem rowAt_cons {w : World} {b o : Nat} {x : JV} {r : List JV} {c0 c1 c2 c3 c4 : Value} (h : ValAt w x (.agg #[c0, c1, c2, c3, c4])) (h0 : w.cell? ⟨b, o, none⟩ = some c0) (h1 : w.cell? ⟨b, o + 1, none⟩ = some c1) (h2 : w.cell? ⟨b, o + 2, none⟩ = some c2) (h3 : w.cell? ⟨b, o + 3, none⟩ = some c3) (h4 : w.cell? ⟨b, o + 4, none⟩ = some c4)
    (hr : RowAt w b (o + 5) r) : RowAt w b o (x :: r) := by
  rw [RowAt]
  exact ⟨⟨c0, c1, c2, c3, c4, h0, h1, h2, h3, h4, h⟩, hr⟩
theorem rowAt_put {w : World} {b o : Nat} {x : JV} {r : List JV} {c0 c1 c2 c3 c4 : Value} (h0 : w.cell? ⟨b, o, none⟩ = some c0) (h1 : w.cell? ⟨b, o + 1, none⟩ = some c1) (h2 : w.cell? ⟨b, o + 2, none⟩ = some c2) (h3 : w.cell? ⟨b, o + 3, none⟩ = some c3) (h4 : w.cell? ⟨b, o + 4, none⟩ = some c4)
    (h : ValAt w x (.agg #[c0, c1, c2, c3, c4])) (hr : RowAt w b (o + 5) r) : RowAt w b o (x :: r) := rowAt_cons h h0 h1 h2 h3 h4 hr
theorem valAt_mk {w : World} {k n : Int} {t : ByteArray} {names : List ByteArray} {items : List JV} {vn vi : Value} (k0 : 0 ≤ k) (k1 : k ≤ 255) (n0 : -9223372036854775808 ≤ n) (n1 : n ≤ 9223372036854775807) (ht : t.size ≤ maxLen) (hn : StrsAt w vn names) (hi : ItemsAt w vi items) :
    ValAt w (.mk k n t names items) (.agg #[.int .u8 k, .int .i64 n, .string t, vn, vi]) := valAt_iff.2 ⟨vn, vi, rfl, k0, k1, n0, n1, ht, hn, hi⟩
theorem valAt_leaf (w : World) (k n : Int) (s : ByteArray) (k0 : 0 ≤ k) (k1 : k ≤ 255) (n0 : -9223372036854775808 ≤ n) (n1 : n ≤ 9223372036854775807) (hs : s.size ≤ maxLen) : ValAt w (.mk k n s [] []) (.agg #[.int .u8 k, .int .i64 n, .string s, .slice none 0 0, .slice none 0 0]) :=
  valAt_mk k0 k1 n0 n1 hs (strsAt_nil w) (itemsAt_nil w)
/-- Small numbers, and no text. -/
theorem valAt_lit {w : World} {k n : Int} {t : ByteArray} {names : List ByteArray} {items : List JV} {vn vi : Value} (h : (decide (0 ≤ k) && decide (k ≤ 255) && decide (-9223372036854775808 ≤ n) && decide (n ≤ 9223372036854775807) && decide (t.size ≤ 1000000)) = true) (hn : StrsAt w vn names) (hi : ItemsAt w vi items) :
    ValAt w (.mk k n t names items) (.agg #[.int .u8 k, .int .i64 n, .string t, vn, vi]) := by
  simp only [Bool.and_eq_true, decide_eq_true_eq] at h
  obtain ⟨⟨⟨⟨h1, h2⟩, h3⟩, h4⟩, h5⟩ := h
  exact valAt_mk h1 h2 h3 h4 (by unfold maxLen; omega) hn hi
/-- Names laid out cell by cell. -/
def StrsFrom (w : World) (b : Nat) : Nat → List ByteArray → Prop
  | _, [] => True
  | o, s :: r => w.cell? ⟨b, o, none⟩ = some (.string s) ∧ StrsFrom w b (o + 1) r
theorem StrsFrom.get {w : World} {b : Nat} : ∀ {l : List ByteArray} {o : Nat}, StrsFrom w b o l → ∀ i s, l[i]? = some s → w.cell? ⟨b, o + i, none⟩ = some (.string s)
  | [], _, _, i, s, h => by simp at h
  | x :: r, o, hf, 0, s, h => by simp at h; subst h; exact hf.1
  | x :: r, o, hf, i + 1, s, h => by
    have := StrsFrom.get hf.2 i s (by simpa using h)
    rw [show o + (i + 1) = o + 1 + i by omega]
    exact this
theorem strsAt_lit {w : World} {b cap : Nat} {l : List ByteArray} {n : Nat} (h : (decide (n = l.length) && decide (l.length ≤ 1000000) && l.all (fun s => decide (s.size ≤ 1000000))) = true) (hf : StrsFrom w b 0 l) : StrsAt w (.slice (some ⟨b, 0, none⟩) n cap) l := by
  simp only [Bool.and_eq_true, decide_eq_true_eq, List.all_eq_true] at h
  obtain ⟨⟨h1, h2⟩, h3⟩ := h
  refine strsAt_of (by omega) (fun s hs => ?_) (fun i s hi => hf.get i s hi) h1
  have := h3 s hs
  unfold maxLen
  omega
theorem itemsAt_lit {w : World} {b cap : Nat} {l : List JV} {n : Nat} (h : (decide (n = l.length) && decide (l.length ≤ 1000000)) = true) (hr : RowAt w b 0 l) : ItemsAt w (.slice (some ⟨b, 0, none⟩) n cap) l := by
  simp only [Bool.and_eq_true, decide_eq_true_eq] at h
  exact itemsAt_of (by omega) hr h.1
/-- The same with the length as the list tells it. -/
theorem strsAt_len {w : World} {b cap : Nat} {l : List ByteArray} (h : (decide (l.length ≤ 1000000) && l.all (fun s => decide (s.size ≤ 1000000))) = true) (hf : StrsFrom w b 0 l) : StrsAt w (.slice (some ⟨b, 0, none⟩) l.length cap) l :=
  strsAt_lit (by simpa using h) hf
theorem itemsAt_len {w : World} {b cap : Nat} {l : List JV} (h : decide (l.length ≤ 1000000) = true) (hr : RowAt w b 0 l) : ItemsAt w (.slice (some ⟨b, 0, none⟩) l.length cap) l :=
  itemsAt_lit (by simpa using h) hr
end
end Go.Proofs.YtfdecbfcddkoiaaGreatDoor
