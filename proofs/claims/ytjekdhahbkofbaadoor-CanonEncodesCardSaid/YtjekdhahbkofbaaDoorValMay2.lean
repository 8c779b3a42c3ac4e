/-
  value.may and value.May: whether a value may be, how deep and how much it is counted in.
-/
import Derived.Test.YtjekdhahbkofbaaDoorValMay
import Derived.OneCell
namespace Go.Proofs.YtjekdhahbkofbaaDoor
open Go.RowKit

/-- Nothing has turned but the block lb, and new memory. -/
structure But (lb : Nat) (w w' : World) : Prop where
  os : w'.os = w.os
  tape : w'.tape = w.tape
  output : w'.output = w.output
  size : w.heap.size ≤ w'.heap.size
  block : ∀ k, k < w.heap.size → k ≠ lb → w'.heap[k]? = w.heap[k]?
theorem But.refl (lb : Nat) (w : World) : But lb w w := ⟨rfl, rfl, rfl, Nat.le_refl _, fun _ _ _ => rfl⟩
theorem But.trans {lb : Nat} {a b c : World} (h : But lb a b) (k : But lb b c) : But lb a c :=
  ⟨k.os.trans h.os, k.tape.trans h.tape, k.output.trans h.output, Nat.le_trans h.size k.size, fun i hi hn => (k.block i (Nat.lt_of_lt_of_le hi h.size) hn).trans (h.block i hi hn)⟩
theorem But.of {lb : Nat} {w w' : World} (h : Below w.heap.size w w') : But lb w w' := ⟨h.os, h.tape, h.output, h.size, fun k hk _ => h.block k hk⟩
theorem But.alloc {lb : Nat} {a w : World} (h : But lb a w) (o : Obj) : But lb a (w.alloc o) := h.trans (But.of ((Below.refl _ _).alloc (Nat.le_refl _) o))
theorem But.setCell {lb : Nat} {a w : World} (h : But lb a w) (v : Value) : But lb a (w.setCell ⟨lb, 0, none⟩ v) :=
  h.trans ⟨rfl, rfl, rfl, by simp [World.setCell], fun k _ hk => Below.heap_setCell _ _ _ _ hk⟩
theorem But.below {lb : Nat} {w0 w w' : World} (h : But lb w w') (hb : Below w0.heap.size w0 w) (hl : w0.heap.size ≤ lb) : Below w0.heap.size w0 w' :=
  ⟨h.os.trans hb.os, h.tape.trans hb.tape, h.output.trans hb.output, Nat.le_trans hb.size h.size, fun k hk => (h.block k (Nat.lt_of_lt_of_le hk hb.size) (by omega)).trans (hb.block k hk)⟩
theorem But.keep {lb : Nat} {w w' : World} (h : But lb w w') {k : Nat} (hk : k < w.heap.size) (hn : k ≠ lb) {o : Obj} (hh : w.heap[k]? = some o) : w'.heap[k]? = some o := by rw [h.block k hk hn]; exact hh
/-- The counter's one cell. -/
def One (w : World) (lb : Nat) (l : Int) : Prop := w.heap[lb]? = some (.cells #[.int .i64 l] 3 (0, 0))
theorem One.lt {w : World} {lb : Nat} {l : Int} (h : One w lb l) : lb < w.heap.size := (Array.getElem?_eq_some_iff.1 h).1
theorem One.cell {w : World} {lb : Nat} {l : Int} (h : One w lb l) : w.cell? ⟨lb, 0, none⟩ = some (.int .i64 l) := by
  unfold World.cell?; rw [show w.heap[lb]? = _ from h]; rfl
theorem One.free {w : World} {lb : Nat} {l : Int} (h : One w lb l) : w.frozen? ⟨lb, 0, none⟩ = false := Lib.frozen_of_heap h 0
theorem One.set {w : World} {lb : Nat} {l : Int} (h : One w lb l) (l' : Int) : One (w.setCell ⟨lb, 0, none⟩ (.int .i64 l')) lb l' := by
  unfold One at *
  simp [World.setCell, Array.getElem?_modify, h]
theorem One.keep {w w' : World} {lb : Nat} {l : Int} (h : One w lb l) (hb : Below w.heap.size w w') : One w' lb l := by
  unfold One at *; rw [hb.block lb (One.lt h)]; exact h
theorem One.alloc {w : World} {lb : Nat} {l : Int} (h : One w lb l) (o : Obj) : One (w.alloc o) lb l := h.keep ((Below.refl _ _).alloc (Nat.le_refl _) o)

mutual
/-- May a value be, so deep, with so many left; and how many are left then. -/
def mayV : JV → Nat → Int → Bool × Int
  | .mk k n t names items, d, l =>
    if l - 1 < 0 ∨ properB (.mk k n t names items) = false then (false, l - 1)
    else if k ≠ 4 ∧ k ≠ 5 then (true, l - 1)
    else if d = 0 then (false, l - 1)
    else mayL items (d - 1) (l - 1)
def mayL : List JV → Nat → Int → Bool × Int
  | [], _, l => (true, l)
  | x :: r, d, l => if (mayV x d l).1 = true then mayL r d (mayV x d l).2 else (false, (mayV x d l).2)
end
mutual
theorem mayV_bd : ∀ (V : JV) (d : Nat) (l : Int), 0 ≤ l → l ≤ 8192 → -1 ≤ (mayV V d l).2 ∧ (mayV V d l).2 ≤ 8192 ∧ ((mayV V d l).1 = true → 0 ≤ (mayV V d l).2)
  | .mk k n t names items, d, l, h0, h1 => by
    rw [mayV]
    split
    · exact ⟨by simp only []; omega, by simp only []; omega, fun h => by cases h⟩
    · rename_i hn
      split
      · exact ⟨by simp only []; omega, by simp only []; omega, fun _ => by simp only []; omega⟩
      · split
        · exact ⟨by simp only []; omega, by simp only []; omega, fun h => by cases h⟩
        · exact mayL_bd items (d - 1) (l - 1) (by omega) (by omega)
theorem mayL_bd : ∀ (items : List JV) (d : Nat) (l : Int), 0 ≤ l → l ≤ 8192 → -1 ≤ (mayL items d l).2 ∧ (mayL items d l).2 ≤ 8192 ∧ ((mayL items d l).1 = true → 0 ≤ (mayL items d l).2)
  | [], d, l, h0, h1 => by rw [mayL]; exact ⟨by simp only []; omega, h1, fun _ => h0⟩
  | x :: r, d, l, h0, h1 => by
    rw [mayL]
    have hx := mayV_bd x d l h0 h1
    split
    · rename_i hy
      exact mayL_bd r d _ (hx.2.2 hy) hx.2.1
    · exact ⟨hx.1, hx.2.1, fun h => by cases h⟩
end

theorem mayV_eq (V : JV) (d : Nat) (l : Int) : mayV V d l = if l - 1 < 0 ∨ properB V = false then (false, l - 1) else if V.k ≠ 4 ∧ V.k ≠ 5 then (true, l - 1) else if d = 0 then (false, l - 1) else mayL V.items (d - 1) (l - 1) := by
  cases V with
  | mk k n t names items => rw [mayV]; rfl
theorem mayL_step {items : List JV} {j : Nat} {x : JV} (h : items[j]? = some x) (d : Nat) (l : Int) : mayL (items.drop j) d l = if (mayV x d l).1 = true then mayL (items.drop (j + 1)) d (mayV x d l).2 else (false, (mayV x d l).2) := by
  obtain ⟨hj, hx⟩ := List.getElem?_eq_some_iff.1 h
  rw [List.drop_eq_getElem_cons hj, hx, mayL]

theorem setCell_size (w : World) (a : Addr) (v : Value) : (w.setCell a v).heap.size = w.heap.size := by simp [World.setCell]

set_option maxRecDepth 100000 in
set_option maxHeartbeats 2000000 in
theorem may_any (N : Nat) : ∀ (V : JV) (v : Value) (d l : Int) (lb : Nat) (w0 w : World), SizeOf.sizeOf V < N → ValAt w0 V v → Below w0.heap.size w0 w → w0.heap.size ≤ lb → 0 ≤ d → d ≤ 12 → 0 ≤ l → l ≤ 8192 → One w lb l →
    Calls Tryd.prog 41 #[v, .int .i64 d, .pointer (some ⟨lb, 0, none⟩)] w fun e w' => e = .returned (.bool (mayV V d.toNat l).1) ∧ One w' lb (mayV V d.toNat l).2 ∧ But lb w w' := by
  induction N with
  | zero => intro V v d l lb w0 w h; omega
  | succ N ih =>
    intro V v d l lb w0 w hN hV hB hlb hd0 hd hl0 hl1 hone
    have HI := Lib.hid ih
    clear ih
    obtain ⟨r, l', hr⟩ : ∃ r l', mayV V d.toNat l = (r, l') := ⟨_, _, rfl⟩
    rw [hr]
    have HR := Lib.hid (hr.symm.trans (mayV_eq V d.toNat l))
    clear hr
    have HV := Lib.hid hV
    obtain ⟨vn, vi, rfl, k0, k1, n0, n1, ht, hns, his⟩ := valAt_iff.1 hV
    obtain ⟨ai, icap, rfl, hil, hic⟩ := his.parts
    obtain ⟨an, ncap, rfl, -, -, -⟩ := hns.parts
    have HIC := Lib.hid hic
    clear hic his hns hV
    have hc := hone.cell
    have hf := hone.free
    have hlt := hone.lt
    obtain ⟨ilen, hilen⟩ : ∃ n, V.items.length = n := ⟨_, rfl⟩
    rw [hilen] at hil HV ⊢
    have HL := Lib.hid hilen
    clear hilen
    have HO := Lib.hid hone
    clear hone
    have hO1 := (HO.out.set (l - 1)).alloc (.cells #[.int .u8 V.k, .int .i64 V.n, .string V.t, .slice an V.names.length ncap, .slice ai ilen icap] 25)
    have hU1 := ((But.refl lb w).setCell (.int .i64 (l - 1))).alloc (.cells #[.int .u8 V.k, .int .i64 V.n, .string V.t, .slice an V.names.length ncap, .slice ai ilen icap] 25)
    by_cases hl : l < 1
    · have e := HR.out
      rw [if_pos (Or.inl (by omega))] at e
      simp only [Prod.mk.injEq] at e
      obtain ⟨rfl, rfl⟩ := e
      clear HR HI HIC
      go_enter Tryd.func41, Tryd.ntmps41
      go_wp2_with fail
      go_ret
      exact ⟨rfl, hO1, hU1⟩
    · go_enter Tryd.func41, Tryd.ntmps41
      go_wp2_with fail
      have hB1 := hU1.below hB hlb
      refine (proper_any V _ _ (HV.out.keep hB1)).mono ?_
      rintro e w2 ⟨rfl, hb2⟩
      have hc0 := box_cell hb2 0 _ rfl
      have hc4 := box_cell hb2 4 _ rfl
      rw [setCell_size] at hc0 hc4
      have hO2 := hO1.keep hb2
      have hU2 := hU1.trans (But.of hb2)
      clear hO1 hU1 hb2 hc hf
      by_cases hp : properB V = true
      · by_cases hk : V.k = 4 ∨ V.k = 5
        · by_cases hdz : d = 0
          · have e := HR.out
            rw [if_neg (by simp [hp]; omega), if_neg (by omega), if_pos (by omega)] at e
            simp only [Prod.mk.injEq] at e
            obtain ⟨rfl, rfl⟩ := e
            have hdb : (d == 0) = true := by rw [hdz]; rfl
            have hkk : ((V.k != 4) = false) ∨ ((V.k != 4) = true ∧ (V.k != 5) = false) := by
              rcases hk with h | h
              · left; simp [h]
              · right; simp [h]
            clear HR HI HIC hk hdz
            rcases hkk with h4 | ⟨h4, h5⟩
            all_goals
              go_wp2_with fail
              go_ret
              exact ⟨rfl, hO2, hU2⟩
          · have e := HR.out
            rw [if_neg (by simp [hp]; omega), if_neg (by omega), if_neg (by omega)] at e
            have HE := Lib.hid e
            have hdb : (d == 0) = false := beq_eq_false_iff_ne.2 hdz
            have hkk : ((V.k != 4) = false) ∨ ((V.k != 4) = true ∧ (V.k != 5) = false) := by
              rcases hk with h | h
              · left; simp [h]
              · right; simp [h]
            have hd1 : 1 ≤ d := by omega
            clear HR hk hdz e
            rcases hkk with h4 | ⟨h4, h5⟩
            all_goals
              go_wp2_with fail
              go_loopw [36] (fun i wr => ∃ (j : Nat) (lj : Int), j ≤ ilen ∧ i = .int .i64 j ∧ 0 ≤ lj ∧ lj ≤ 8192 ∧ One wr lb lj ∧ But lb w wr ∧ Hid ((r, l') = mayL (V.items.drop j) (d.toNat - 1) lj)) (fun i _ => ilen - (intOf i).toNat)
              case atStart => exact ⟨0, l - 1, by omega, rfl, by omega, by omega, hO2, hU2, HE.out⟩
              case round =>
                obtain ⟨j, lj, hj, rfl, q0, q1, hOr, hUr, HM⟩ := hrel
                by_cases hjl : j < ilen
                · obtain ⟨x, hx⟩ : ∃ x, V.items[j]? = some x := ⟨_, List.getElem?_eq_getElem (by rw [HL.out]; exact hjl)⟩
                  obtain ⟨b, o, xn, xi, rfl, c0, c1, c2, c3, c4, a0, a1, a2, a3, a4, a5, a6⟩ := HIC.out j x hx
                  have hBr := hUr.below hB hlb
                  have hvx : ValAt w0 x (.agg #[.int .u8 x.k, .int .i64 x.n, .string x.t, xn, xi]) := valAt_iff.2 ⟨_, _, rfl, a0, a1, a2, a3, a4, a5, a6⟩
                  have hsx : SizeOf.sizeOf x < N := by
                    have := JV.size_item (List.mem_of_getElem? hx)
                    omega
                  obtain ⟨xan, xncap, rfl, -, -, -⟩ := a5.parts
                  obtain ⟨xai, xicap, rfl, -, -⟩ := a6.parts
                  obtain ⟨r2, l2, hr2⟩ : ∃ r2 l2, mayV x (d.toNat - 1) lj = (r2, l2) := ⟨_, _, rfl⟩
                  have hst := HM.out.trans (mayL_step hx (d.toNat - 1) lj)
                  have hbd := mayV_bd x (d.toNat - 1) lj q0 q1
                  rw [hr2] at hst hbd
                  have HST := Lib.hid hst
                  have HBD := Lib.hid hbd
                  have HR2 := Lib.hid hr2
                  have e0 := cell_keep hBr c0
                  have e1 := cell_keep hBr c1
                  have e2 := cell_keep hBr c2
                  have e3 := cell_keep hBr c3
                  have e4 := cell_keep hBr c4
                  clear hst hbd hr2 c0 c1 c2 c3 c4 a5 a6 hx HM
                  have hdt : (d - 1).toNat = d.toNat - 1 := by omega
                  have HDT := Lib.hid hdt
                  clear hdt
                  go_wp2_with fail
                  have hO3 := hOr.alloc (.cells #[.int .u8 x.k, .int .i64 x.n, .string x.t, .slice xan x.names.length xncap, .slice xai x.items.length xicap] 25)
                  have hU3 := hUr.alloc (.cells #[.int .u8 x.k, .int .i64 x.n, .string x.t, .slice xan x.names.length xncap, .slice xai x.items.length xicap] 25)
                  refine (HI.out x _ (d - 1) lj lb w0 _ hsx hvx (hU3.below hB hlb) hlb (by omega) (by omega) q0 q1 hO3).mono ?_
                  rintro e w4 ⟨rfl, hO4, hb4⟩
                  rw [HDT.out, HR2.out] at hO4 ⊢
                  have hU4 := hU3.trans hb4
                  obtain ⟨bd1, bd2, bd3⟩ := HBD.out
                  clear hO3 hU3 hb4
                  cases r2 with
                  | true =>
                    have bd4 : 0 ≤ l2 := bd3 rfl
                    have hst2 : (r, l') = mayL (V.items.drop (j + 1)) (d.toNat - 1) l2 := by have := HST.out; simpa using this
                    have HS2 := Lib.hid hst2
                    clear hst2 HST bd3
                    go_wp2_with fail
                    refine ⟨?_, by simp [intOf]; omega⟩
                    first | exact ⟨j + 1, l2, by omega, by go_num, bd4, bd2, hO4, hU4, HS2.out⟩ | ((repeat apply Exists.intro); exact ⟨⟨j + 1, l2, by omega, by go_num, bd4, bd2, hO4, hU4, HS2.out⟩, rfl⟩)
                  | false =>
                    have hst2 : (r, l') = (false, l2) := by have := HST.out; simpa using this
                    simp only [Prod.mk.injEq] at hst2
                    obtain ⟨rfl, rfl⟩ := hst2
                    clear HST HE
                    go_wp2_with fail
                    go_ret
                    exact ⟨rfl, hO4, hU4⟩
                · have e := HM.out
                  rw [List.drop_eq_nil_of_le (by rw [HL.out]; omega), mayL] at e
                  simp only [Prod.mk.injEq] at e
                  obtain ⟨rfl, rfl⟩ := e
                  go_wp2_with fail
                  go_ret
                  exact ⟨rfl, hOr, hUr⟩
        · have e := HR.out
          rw [if_neg (by simp [hp]; omega), if_pos (by omega)] at e
          simp only [Prod.mk.injEq] at e
          obtain ⟨rfl, rfl⟩ := e
          have h4 : (V.k != 4) = true := by rw [bne_iff_ne]; omega
          have h5 : (V.k != 5) = true := by rw [bne_iff_ne]; omega
          clear HR HI HIC hk
          go_wp2_with fail
          go_ret
          exact ⟨rfl, hO2, hU2⟩
      · have hpf : properB V = false := by simpa using hp
        have e := HR.out
        rw [if_pos (Or.inr hpf)] at e
        simp only [Prod.mk.injEq] at e
        obtain ⟨rfl, rfl⟩ := e
        clear HR HI HIC hp
        go_wp2_with fail
        go_ret
        exact ⟨rfl, hO2, hU2⟩

/-- Whether a value may be. -/
def mayB (V : JV) : Bool := (mayV V 12 8192).1
set_option maxHeartbeats 400000 in
theorem May_any (V : JV) (v : Value) (w : World) (h : ValAt w V v) :
    Calls Tryd.prog 22 #[v] w fun e w' => e = .returned (.bool (mayB V)) ∧ Below w.heap.size w w' := by
  obtain ⟨vn, vi, hv, k0, k1, n0, n1, ht, hns, his⟩ := valAt_iff.1 h
  obtain ⟨ai, icap, rfl, -, -⟩ := his.parts
  obtain ⟨an, ncap, rfl, -, -, -⟩ := hns.parts
  subst hv
  go_enter Tryd.func22, Tryd.ntmps22
  go_wp2_with fail
  have hB : Below w.heap.size w ((w.alloc (.cells #[.int .u8 V.k, .int .i64 V.n, .string V.t, .slice an V.names.length ncap, .slice ai V.items.length icap] 25)).alloc (.cells #[.int .i64 8192] 3)) := ((Below.refl _ _).alloc (Nat.le_refl _) _).alloc (by simp) _
  have hO : One ((w.alloc (.cells #[.int .u8 V.k, .int .i64 V.n, .string V.t, .slice an V.names.length ncap, .slice ai V.items.length icap] 25)).alloc (.cells #[.int .i64 8192] 3)) (w.heap.size + 1) 8192 := by
    unfold One
    show ((w.heap.push _).push _)[w.heap.size + 1]? = _
    rw [Array.getElem?_push, if_pos (by simp)]
  refine (may_any _ V _ 12 8192 (w.heap.size + 1) w _ (Nat.lt_succ_self _) h hB (by omega) (by omega) (by omega) (by omega) (by omega) hO).mono ?_
  rintro e w2 ⟨rfl, hO2, hU⟩
  go_wp2_with fail
  go_ret
  exact ⟨rfl, hU.below hB (by omega)⟩
end Go.Proofs.YtjekdhahbkofbaaDoor
