/-
  value.May: whether a value may be.
  value.may and value.May: whether a value may be, how deep and how much it is counted in.
  quote.Quote: the canonical form of a string.
  The canonical form of a value, as plain lists of bytes.
-/
import Derived.Test.YtfdecbfcddkoiaaGreatDoorValA
import Derived.Test.YtfdecbfcddkoiaaGreatDoorUtfA
import Derived.Deep.QuietTactic
import Derived.BigQuiet
import Derived.IntWalk
import Derived.Deep.Light
import Derived.OneCell
import Derived.Test.YtfdecbfcddkoiaaGreatDoorBuildA
namespace Go.Proofs.YtfdecbfcddkoiaaGreatDoor
section
open Go.RowKit

/-- May a string stand in a value? -/
def writ (s : ByteArray) : Bool := decide (s.size ≤ 4096) && utfOK s
/-- Two names one behind the other: does the second one come later? -/
def lessAt (l : List ByteArray) (i : Nat) : Bool := Op.bytesLess (l.getD i ByteArray.empty).toList (l.getD (i + 1) ByteArray.empty).toList
def ascB (l : List ByteArray) : Bool := (List.range (l.length - 1)).all (lessAt l)
def ascTo (l : List ByteArray) (k : Nat) : Bool := (List.range (k - 1)).all (lessAt l)

theorem box_cell {w w2 : World} {cs : Array Value} {t : TypeId} (hb : Below (w.alloc (.cells cs t)).heap.size (w.alloc (.cells cs t)) w2) (i : Nat) (v : Value) (h : cs[i]? = some v) : w2.cell? ⟨w.heap.size, i, none⟩ = some v := by
  have hh : (w.alloc (.cells cs t)).heap[w.heap.size]? = some (.cells cs t) := by
    show (w.heap.push (.cells cs t))[w.heap.size]? = _
    simp
  rw [hb.cell (p := ⟨w.heap.size, i, none⟩) (by simp)]
  unfold World.cell?
  simp only [hh]
  simpa using h
theorem all_step {l : List ByteArray} {p : ByteArray → Bool} {k : Nat} {s : ByteArray} (h : l[k]? = some s) (ha : (l.take k).all p = true) (hs : p s = true) : (l.take (k + 1)).all p = true := by
  rw [List.take_add_one, h, List.all_append, ha]; simp [hs]
theorem all_no {l : List ByteArray} {p : ByteArray → Bool} {k : Nat} {s : ByteArray} (h : l[k]? = some s) (hs : p s = false) : l.all p = false := by
  rw [List.all_eq_false]; exact ⟨s, List.mem_of_getElem? h, by simp [hs]⟩

/-- Has a value what its Kind uses, and nothing else? -/
def properB : JV → Bool
  | .mk k n t names items =>
    if (k ≠ 1 ∧ k ≠ 2 ∧ n ≠ 0) ∨ (k ≠ 3 ∧ t.toList ≠ []) then false
    else if (k ≠ 5 ∧ 0 < names.length) ∨ (k ≠ 5 ∧ k ≠ 4 ∧ 0 < items.length) then false
    else if k = 1 then decide (n = 0) || decide (n = 1)
    else if k = 2 ∨ k = 4 then true
    else if k = 3 then writ t
    else if k = 5 then decide (names.length = items.length) && ascB names && names.all writ
    else false

end

section
open Go.RowKit

/-- Nothing has turned but the block lb, and new memory. -/
structure But (lb : Nat) (w w' : World) : Prop where
  os : w'.os = w.os
  tape : w'.tape = w.tape
  output : w'.output = w.output
  size : w.heap.size ≤ w'.heap.size
  block : ∀ k, k < w.heap.size → k ≠ lb → w'.heap[k]? = w.heap[k]?
theorem But.refl (lb : Nat) (w : World) : But lb w w := ⟨rfl, rfl, rfl, Nat.le_refl _, fun _ _ _ => rfl⟩
theorem But.trans {lb : Nat} {a b c : World} (h : But lb a b) (k : But lb b c) : But lb a c :=
  ⟨k.os.trans h.os, k.tape.trans h.tape, k.output.trans h.output, Nat.le_trans h.size k.size, fun i hi hn => (k.block i (Nat.lt_of_lt_of_le hi h.size) hn).trans (h.block i hi hn)⟩
theorem But.of {lb : Nat} {w w' : World} (h : Below w.heap.size w w') : But lb w w' := ⟨h.os, h.tape, h.output, h.size, fun k hk _ => h.block k hk⟩
theorem But.alloc {lb : Nat} {a w : World} (h : But lb a w) (o : Obj) : But lb a (w.alloc o) := h.trans (But.of ((Below.refl _ _).alloc (Nat.le_refl _) o))
theorem But.setCell {lb : Nat} {a w : World} (h : But lb a w) (v : Value) : But lb a (w.setCell ⟨lb, 0, none⟩ v) :=
  h.trans ⟨rfl, rfl, rfl, by simp [World.setCell], fun k _ hk => Below.heap_setCell _ _ _ _ hk⟩
theorem But.below {lb : Nat} {w0 w w' : World} (h : But lb w w') (hb : Below w0.heap.size w0 w) (hl : w0.heap.size ≤ lb) : Below w0.heap.size w0 w' :=
  ⟨h.os.trans hb.os, h.tape.trans hb.tape, h.output.trans hb.output, Nat.le_trans hb.size h.size, fun k hk => (h.block k (Nat.lt_of_lt_of_le hk hb.size) (by omega)).trans (hb.block k hk)⟩
theorem But.keep {lb : Nat} {w w' : World} (h : But lb w w') {k : Nat} (hk : k < w.heap.size) (hn : k ≠ lb) {o : Obj} (hh : w.heap[k]? = some o) : w'.heap[k]? = some o := by rw [h.block k hk hn]; exact hh
/-- The counter's one cell. -/
def One (w : World) (lb : Nat) (l : Int) : Prop := w.heap[lb]? = some (.cells #[.int .i64 l] 3 (0, 0))
theorem One.lt {w : World} {lb : Nat} {l : Int} (h : One w lb l) : lb < w.heap.size := (Array.getElem?_eq_some_iff.1 h).1
theorem One.cell {w : World} {lb : Nat} {l : Int} (h : One w lb l) : w.cell? ⟨lb, 0, none⟩ = some (.int .i64 l) := by
  unfold World.cell?; rw [show w.heap[lb]? = _ from h]; rfl
theorem One.free {w : World} {lb : Nat} {l : Int} (h : One w lb l) : w.frozen? ⟨lb, 0, none⟩ = false := Lib.frozen_of_heap h 0
theorem One.set {w : World} {lb : Nat} {l : Int} (h : One w lb l) (l' : Int) : One (w.setCell ⟨lb, 0, none⟩ (.int .i64 l')) lb l' := by
  unfold One at *
  simp [World.setCell, Array.getElem?_modify, h]
theorem One.keep {w w' : World} {lb : Nat} {l : Int} (h : One w lb l) (hb : Below w.heap.size w w') : One w' lb l := by
  unfold One at *; rw [hb.block lb (One.lt h)]; exact h
theorem One.alloc {w : World} {lb : Nat} {l : Int} (h : One w lb l) (o : Obj) : One (w.alloc o) lb l := h.keep ((Below.refl _ _).alloc (Nat.le_refl _) o)

mutual
/-- May a value be, so deep, with so many left; and how many are left then. -/
def mayV : JV → Nat → Int → Bool × Int
  | .mk k n t names items, d, l =>
    if l - 1 < 0 ∨ properB (.mk k n t names items) = false then (false, l - 1)
    else if k ≠ 4 ∧ k ≠ 5 then (true, l - 1)
    else if d = 0 then (false, l - 1)
    else mayL items (d - 1) (l - 1)
def mayL : List JV → Nat → Int → Bool × Int
  | [], _, l => (true, l)
  | x :: r, d, l => if (mayV x d l).1 = true then mayL r d (mayV x d l).2 else (false, (mayV x d l).2)
end
mutual
theorem mayV_bd : ∀ (V : JV) (d : Nat) (l : Int), 0 ≤ l → l ≤ 8192 → -1 ≤ (mayV V d l).2 ∧ (mayV V d l).2 ≤ 8192 ∧ ((mayV V d l).1 = true → 0 ≤ (mayV V d l).2)
  | .mk k n t names items, d, l, h0, h1 => by
    rw [mayV]
    split
    · exact ⟨by simp only []; omega, by simp only []; omega, fun h => by cases h⟩
    · rename_i hn
      split
      · exact ⟨by simp only []; omega, by simp only []; omega, fun _ => by simp only []; omega⟩
      · split
        · exact ⟨by simp only []; omega, by simp only []; omega, fun h => by cases h⟩
        · exact mayL_bd items (d - 1) (l - 1) (by omega) (by omega)
theorem mayL_bd : ∀ (items : List JV) (d : Nat) (l : Int), 0 ≤ l → l ≤ 8192 → -1 ≤ (mayL items d l).2 ∧ (mayL items d l).2 ≤ 8192 ∧ ((mayL items d l).1 = true → 0 ≤ (mayL items d l).2)
  | [], d, l, h0, h1 => by rw [mayL]; exact ⟨by simp only []; omega, h1, fun _ => h0⟩
  | x :: r, d, l, h0, h1 => by
    rw [mayL]
    have hx := mayV_bd x d l h0 h1
    split
    · rename_i hy
      exact mayL_bd r d _ (hx.2.2 hy) hx.2.1
    · exact ⟨hx.1, hx.2.1, fun h => by cases h⟩
end

theorem mayV_eq (V : JV) (d : Nat) (l : Int) : mayV V d l = if l - 1 < 0 ∨ properB V = false then (false, l - 1) else if V.k ≠ 4 ∧ V.k ≠ 5 then (true, l - 1) else if d = 0 then (false, l - 1) else mayL V.items (d - 1) (l - 1) := by
  cases V with
  | mk k n t names items => rw [mayV]; rfl
theorem mayL_step {items : List JV} {j : Nat} {x : JV} (h : items[j]? = some x) (d : Nat) (l : Int) : mayL (items.drop j) d l = if (mayV x d l).1 = true then mayL (items.drop (j + 1)) d (mayV x d l).2 else (false, (mayV x d l).2) := by
  obtain ⟨hj, hx⟩ := List.getElem?_eq_some_iff.1 h
  rw [List.drop_eq_getElem_cons hj, hx, mayL]

theorem setCell_size (w : World) (a : Addr) (v : Value) : (w.setCell a v).heap.size = w.heap.size := by simp [World.setCell]

/-- Whether a value may be. -/
def mayB (V : JV) : Bool := (mayV V 12 8192).1
end

section
open Go.RowKit

/-- A byte of a string's form. -/
def escB (c : UInt8) : List UInt8 := if c.toNat = 34 ∨ c.toNat = 92 then [92, c] else [c]
def escL (l : List UInt8) : List UInt8 := l.flatMap escB
def quoteL (l : List UInt8) : List UInt8 := 34 :: (escL l ++ [34])
theorem escL_len (l : List UInt8) : (escL l).length ≤ 2 * l.length := by
  induction l with
  | nil => simp [escL]
  | cons c r ih =>
    simp only [escL, List.flatMap_cons, List.length_append, List.length_cons] at *
    have : (escB c).length ≤ 2 := by unfold escB; split <;> simp
    omega
theorem escL_step (s : ByteArray) (k : Nat) (h : k < s.size) : escL (s.data.toList.take (k + 1)) = escL (s.data.toList.take k) ++ escB s[k] := by
  rw [take_snoc s k h, escL, escL, List.flatMap_append]; simp

end

section
open Go.RowKit

/-- Texts with a comma between them. -/
def joinC : List (List UInt8) → List UInt8
  | [] => []
  | [x] => x
  | x :: y :: r => x ++ 44 :: joinC (y :: r)
mutual
/-- A value's form. -/
def formV : JV → List UInt8
  | .mk k n t names items =>
    if k = 1 then (if n = 1 then [116, 114, 117, 101] else [102, 97, 108, 115, 101])
    else if k = 2 then Lib.itoa n
    else if k = 3 then quoteL t.data.toList
    else if k = 4 then 91 :: (joinC (formVs items) ++ [93])
    else if k = 5 then 123 :: (joinC ((names.zip (formVs items)).map fun p => quoteL p.1.data.toList ++ 58 :: p.2) ++ [125])
    else []
def formVs : List JV → List (List UInt8)
  | [] => []
  | x :: r => formV x :: formVs r
end
theorem formV_eq (V : JV) : formV V = if V.k = 1 then (if V.n = 1 then [116, 114, 117, 101] else [102, 97, 108, 115, 101]) else if V.k = 2 then Lib.itoa V.n else if V.k = 3 then quoteL V.t.data.toList else if V.k = 4 then 91 :: (joinC (formVs V.items) ++ [93]) else if V.k = 5 then 123 :: (joinC ((V.names.zip (formVs V.items)).map fun p => quoteL p.1.data.toList ++ 58 :: p.2) ++ [125]) else [] := by
  cases V; rw [formV]; rfl
theorem formVs_map (l : List JV) : formVs l = l.map formV := by
  induction l with
  | nil => rfl
  | cons x r ih => rw [formVs, ih]; rfl
theorem joinC_snoc (xs : List (List UInt8)) (y : List UInt8) : joinC (xs ++ [y]) = if xs = [] then y else joinC xs ++ 44 :: y := by
  induction xs with
  | nil => simp [joinC]
  | cons x r ih =>
    cases r with
    | nil => simp [joinC]
    | cons z r =>
      simp only [List.cons_append, joinC] at ih ⊢
      rw [ih]; simp
theorem joinC_len (xs ys : List (List UInt8)) : (joinC xs).length ≤ (joinC (xs ++ ys)).length := by
  induction xs with
  | nil => simp [joinC]
  | cons x r ih =>
    cases r with
    | nil => cases ys <;> simp [joinC]
    | cons z r =>
      simp only [List.cons_append, joinC, List.length_append, List.length_cons] at ih ⊢
      omega
/-- One text more, at a place. -/
theorem joinC_step {xs : List (List UInt8)} {j : Nat} {y : List UInt8} (h : xs[j]? = some y) : joinC (xs.take (j + 1)) = if j = 0 then y else joinC (xs.take j) ++ 44 :: y := by
  obtain ⟨hj, -⟩ := List.getElem?_eq_some_iff.1 h
  rw [List.take_add_one, h]
  show joinC (xs.take j ++ [y]) = _
  rw [joinC_snoc]
  by_cases h0 : j = 0
  · subst h0; simp
  · rw [if_neg (by rw [List.take_eq_nil_iff]; rintro (e | e); exact h0 e; subst e; simp at hj), if_neg h0]
theorem joinC_take (xs : List (List UInt8)) (j : Nat) : (joinC (xs.take j)).length ≤ (joinC xs).length := by
  have := joinC_len (xs.take j) (xs.drop j)
  rwa [List.take_append_drop] at this

mutual
/-- A value all of whose parts are proper. -/
def goodV : JV → Bool
  | .mk k n t names items => properB (.mk k n t names items) && (if k = 4 ∨ k = 5 then goodVs items else true)
def goodVs : List JV → Bool
  | [] => true
  | x :: r => goodV x && goodVs r
end
theorem goodV_eq (V : JV) : goodV V = (properB V && (if V.k = 4 ∨ V.k = 5 then goodVs V.items else true)) := by cases V; rw [goodV]; rfl
theorem goodVs_mem : ∀ {l : List JV}, goodVs l = true → ∀ x ∈ l, goodV x = true
  | y :: r, h, x, hx => by
    rw [goodVs, Bool.and_eq_true] at h
    rcases List.mem_cons.1 hx with rfl | hx
    · exact h.1
    · exact goodVs_mem h.2 x hx
mutual
theorem good_of_may : ∀ (V : JV) (d : Nat) (l : Int), (mayV V d l).1 = true → goodV V = true
  | .mk k n t names items, d, l, h => by
    rw [mayV] at h
    rw [goodV]
    split at h
    · cases h
    · rename_i h1
      have hp : properB (.mk k n t names items) = true := by
        cases hpp : properB (.mk k n t names items)
        · exact absurd (Or.inr hpp) h1
        · rfl
      rw [hp]
      split at h
      · rename_i h2
        rw [if_neg (by omega)]; rfl
      · rename_i h2
        rw [if_pos (by omega)]
        split at h
        · cases h
        · rw [goods_of_may items _ _ h]; rfl
theorem goods_of_may : ∀ (items : List JV) (d : Nat) (l : Int), (mayL items d l).1 = true → goodVs items = true
  | [], _, _, _ => by rw [goodVs]
  | x :: r, d, l, h => by
    rw [mayL] at h
    split at h
    · rename_i hx
      rw [goodVs, good_of_may x d l hx, goods_of_may r d _ h]; rfl
    · cases h
end
/-- What a proper value of each kind has. -/
theorem proper_text {V : JV} (h : properB V = true) (hk : V.k = 3) : writ V.t = true := by
  cases V with
  | mk k n t names items =>
    have hk3 : k = 3 := hk
    subst hk3
    show writ t = true
    rw [properB] at h
    split at h
    · cases h
    · split at h
      · cases h
      · simpa using h
theorem proper_obj {V : JV} (h : properB V = true) (hk : V.k = 5) : V.names.length = V.items.length ∧ ascB V.names = true ∧ V.names.all writ = true := by
  cases V with
  | mk k n t names items =>
    have hk5 : k = 5 := hk
    subst hk5
    show names.length = items.length ∧ ascB names = true ∧ names.all writ = true
    rw [properB] at h
    split at h
    · cases h
    · split at h
      · cases h
      · simp only at h
        simpa [and_assoc] using h
theorem quote_len {s : ByteArray} (h : writ s = true) : (quoteL s.data.toList).length ≤ 8194 := by
  have h2 : s.size ≤ 4096 := by simp [writ] at h; exact h.1
  have := escL_len s.data.toList
  rw [size_len] at this
  simp only [quoteL, List.length_cons, List.length_append, List.length_nil]
  omega
end
end Go.Proofs.YtfdecbfcddkoiaaGreatDoor
