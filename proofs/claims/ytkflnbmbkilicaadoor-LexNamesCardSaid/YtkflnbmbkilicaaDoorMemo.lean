/-
  Values that a call lays out in memory itself: cells of new blocks, and what they read as.
-/
import Derived.Test.YtkflnbmbkilicaaDoorVal
namespace Go.Proofs.YtkflnbmbkilicaaDoor
open Go.RowKit

theorem bcell {W w1 : World} (hb : Below W.heap.size W w1) : (∀ b o, b < W.heap.size → w1.cell? ⟨b, o, none⟩ = W.cell? ⟨b, o, none⟩) ∧ (∀ b o, b < W.heap.size → w1.frozen? ⟨b, o, none⟩ = W.frozen? ⟨b, o, none⟩) :=
  ⟨fun b o h => hb.cell (p := ⟨b, o, none⟩) h, fun b o h => hb.frozen (p := ⟨b, o, none⟩) h⟩
theorem bel_alloc {a b : World} (h : Below a.heap.size a b) (o : Obj) : Below a.heap.size a (b.alloc o) := h.alloc h.size o
theorem bel_drew {a b : World} (h : Below a.heap.size a b) : Below a.heap.size a b.drew := ⟨h.os, h.tape, h.output, h.size, h.block⟩
theorem bel_drewN {a b : World} (h : Below a.heap.size a b) (n : Nat) : Below a.heap.size a (b.drewN n) := ⟨h.os, h.tape, h.output, h.size, h.block⟩
theorem bel_set {a b : World} (h : Below a.heap.size a b) {p : Addr} (hp : a.heap.size ≤ p.block) (v : Value) : Below a.heap.size a (b.setCell p v) := h.setCell hp v
theorem cell_al_eq (w : World) (cs : Array Value) (t : TypeId) (b i : Nat) (h : b = w.heap.size) : (w.alloc (.cells cs t)).cell? ⟨b, i, none⟩ = cs[i]? := by
  subst h
  have hh : (w.alloc (.cells cs t)).heap[w.heap.size]? = some (.cells cs t) := by
    show (w.heap.push (.cells cs t))[w.heap.size]? = _
    simp
  unfold World.cell?
  simp only [hh]
  rfl
theorem cell_al_lt (w : World) (o : Obj) (b i : Nat) (h : b < w.heap.size) : (w.alloc o).cell? ⟨b, i, none⟩ = w.cell? ⟨b, i, none⟩ := World.cell?_alloc_lt w o ⟨b, i, none⟩ h
theorem cell_dr (w : World) (p : Addr) : w.drew.cell? p = w.cell? p := rfl
theorem cell_drN (w : World) (n : Nat) (p : Addr) : (w.drewN n).cell? p = w.cell? p := rfl
theorem size_al (w : World) (o : Obj) : (w.alloc o).heap.size = w.heap.size + 1 := by show (w.heap.push o).size = _; simp
theorem size_dr (w : World) : w.drew.heap.size = w.heap.size := rfl
theorem size_drN (w : World) (n : Nat) : (w.drewN n).heap.size = w.heap.size := rfl

theorem strsAt_nil (w : World) : StrsAt w (.slice none 0 0) [] := ⟨by simp, by simp, Or.inl ⟨rfl, _, _, rfl⟩⟩
theorem strsAt_of {w : World} {b o cap : Nat} {l : List ByteArray} (hl : l.length ≤ 9223372036854775807) (hm : ∀ s ∈ l, s.size ≤ maxLen) (hc : ∀ i s, l[i]? = some s → w.cell? ⟨b, o + i, none⟩ = some (.string s)) {n : Nat} (hn : n = l.length) :
    StrsAt w (.slice (some ⟨b, o, none⟩) n cap) l := by
  subst hn
  exact ⟨hm, hl, Or.inr ⟨b, o, cap, rfl, hc⟩⟩
theorem itemsAt_nil (w : World) : ItemsAt w (.slice none 0 0) [] := ⟨by simp, Or.inl ⟨rfl, _, _, rfl⟩⟩
theorem itemsAt_of {w : World} {b o cap : Nat} {l : List JV} (hl : l.length ≤ 9223372036854775807) (hr : RowAt w b o l) {n : Nat} (hn : n = l.length) : ItemsAt w (.slice (some ⟨b, o, none⟩) n cap) l := by
  subst hn
  exact ⟨hl, Or.inr ⟨b, o, cap, rfl, hr⟩⟩
theorem rowAt_nil (w : World) (b o : Nat) : RowAt w b o [] := by rw [RowAt]; trivial
theorem rowAt_cons {w : World} {b o : Nat} {x : JV} {r : List JV} {c0 c1 c2 c3 c4 : Value} (h : ValAt w x (.agg #[c0, c1, c2, c3, c4])) (h0 : w.cell? ⟨b, o, none⟩ = some c0) (h1 : w.cell? ⟨b, o + 1, none⟩ = some c1) (h2 : w.cell? ⟨b, o + 2, none⟩ = some c2) (h3 : w.cell? ⟨b, o + 3, none⟩ = some c3) (h4 : w.cell? ⟨b, o + 4, none⟩ = some c4)
    (hr : RowAt w b (o + 5) r) : RowAt w b o (x :: r) := by
  rw [RowAt]
  exact ⟨⟨c0, c1, c2, c3, c4, h0, h1, h2, h3, h4, h⟩, hr⟩
theorem rowAt_put {w : World} {b o : Nat} {x : JV} {r : List JV} {c0 c1 c2 c3 c4 : Value} (h0 : w.cell? ⟨b, o, none⟩ = some c0) (h1 : w.cell? ⟨b, o + 1, none⟩ = some c1) (h2 : w.cell? ⟨b, o + 2, none⟩ = some c2) (h3 : w.cell? ⟨b, o + 3, none⟩ = some c3) (h4 : w.cell? ⟨b, o + 4, none⟩ = some c4)
    (h : ValAt w x (.agg #[c0, c1, c2, c3, c4])) (hr : RowAt w b (o + 5) r) : RowAt w b o (x :: r) := rowAt_cons h h0 h1 h2 h3 h4 hr
theorem valAt_mk {w : World} {k n : Int} {t : ByteArray} {names : List ByteArray} {items : List JV} {vn vi : Value} (k0 : 0 ≤ k) (k1 : k ≤ 255) (n0 : -9223372036854775808 ≤ n) (n1 : n ≤ 9223372036854775807) (ht : t.size ≤ maxLen) (hn : StrsAt w vn names) (hi : ItemsAt w vi items) :
    ValAt w (.mk k n t names items) (.agg #[.int .u8 k, .int .i64 n, .string t, vn, vi]) := valAt_iff.2 ⟨vn, vi, rfl, k0, k1, n0, n1, ht, hn, hi⟩
theorem valAt_leaf (w : World) (k n : Int) (s : ByteArray) (k0 : 0 ≤ k) (k1 : k ≤ 255) (n0 : -9223372036854775808 ≤ n) (n1 : n ≤ 9223372036854775807) (hs : s.size ≤ maxLen) : ValAt w (.mk k n s [] []) (.agg #[.int .u8 k, .int .i64 n, .string s, .slice none 0 0, .slice none 0 0]) :=
  valAt_mk k0 k1 n0 n1 hs (strsAt_nil w) (itemsAt_nil w)
/-- Small numbers, and no text. -/
theorem valAt_lit {w : World} {k n : Int} {t : ByteArray} {names : List ByteArray} {items : List JV} {vn vi : Value} (h : (decide (0 ≤ k) && decide (k ≤ 255) && decide (-9223372036854775808 ≤ n) && decide (n ≤ 9223372036854775807) && decide (t.size ≤ 1000000)) = true) (hn : StrsAt w vn names) (hi : ItemsAt w vi items) :
    ValAt w (.mk k n t names items) (.agg #[.int .u8 k, .int .i64 n, .string t, vn, vi]) := by
  simp only [Bool.and_eq_true, decide_eq_true_eq] at h
  obtain ⟨⟨⟨⟨h1, h2⟩, h3⟩, h4⟩, h5⟩ := h
  exact valAt_mk h1 h2 h3 h4 (by unfold maxLen; omega) hn hi
/-- Names laid out cell by cell. -/
def StrsFrom (w : World) (b : Nat) : Nat → List ByteArray → Prop
  | _, [] => True
  | o, s :: r => w.cell? ⟨b, o, none⟩ = some (.string s) ∧ StrsFrom w b (o + 1) r
theorem StrsFrom.get {w : World} {b : Nat} : ∀ {l : List ByteArray} {o : Nat}, StrsFrom w b o l → ∀ i s, l[i]? = some s → w.cell? ⟨b, o + i, none⟩ = some (.string s)
  | [], _, _, i, s, h => by simp at h
  | x :: r, o, hf, 0, s, h => by simp at h; subst h; exact hf.1
  | x :: r, o, hf, i + 1, s, h => by
    have := StrsFrom.get hf.2 i s (by simpa using h)
    rw [show o + (i + 1) = o + 1 + i by omega]
    exact this
theorem strsAt_lit {w : World} {b cap : Nat} {l : List ByteArray} {n : Nat} (h : (decide (n = l.length) && decide (l.length ≤ 1000000) && l.all (fun s => decide (s.size ≤ 1000000))) = true) (hf : StrsFrom w b 0 l) : StrsAt w (.slice (some ⟨b, 0, none⟩) n cap) l := by
  simp only [Bool.and_eq_true, decide_eq_true_eq, List.all_eq_true] at h
  obtain ⟨⟨h1, h2⟩, h3⟩ := h
  refine strsAt_of (by omega) (fun s hs => ?_) (fun i s hi => hf.get i s hi) h1
  have := h3 s hs
  unfold maxLen
  omega
theorem itemsAt_lit {w : World} {b cap : Nat} {l : List JV} {n : Nat} (h : (decide (n = l.length) && decide (l.length ≤ 1000000)) = true) (hr : RowAt w b 0 l) : ItemsAt w (.slice (some ⟨b, 0, none⟩) n cap) l := by
  simp only [Bool.and_eq_true, decide_eq_true_eq] at h
  exact itemsAt_of (by omega) hr h.1
/-- The same with the length as the list tells it. -/
theorem strsAt_len {w : World} {b cap : Nat} {l : List ByteArray} (h : (decide (l.length ≤ 1000000) && l.all (fun s => decide (s.size ≤ 1000000))) = true) (hf : StrsFrom w b 0 l) : StrsAt w (.slice (some ⟨b, 0, none⟩) l.length cap) l :=
  strsAt_lit (by simpa using h) hf
theorem itemsAt_len {w : World} {b cap : Nat} {l : List JV} (h : decide (l.length ≤ 1000000) = true) (hr : RowAt w b 0 l) : ItemsAt w (.slice (some ⟨b, 0, none⟩) l.length cap) l :=
  itemsAt_lit (by simpa using h) hr
end Go.Proofs.YtkflnbmbkilicaaDoor
