/-
  How the law ReadSpelt writes a row of values: one more each time.
  How the law ReadSpelt writes: a value.
  A row of bytes of the call's own that may stem from a conversion of a text: it bears a frozen place behind its last cell. Appending to it.
  How the law ReadSpelt writes: a list.
  How the law ReadSpelt writes: an object.
-/
import Derived.Test.YtfdecbfcddkoiaaGreatDoorReadSpeltP
import Derived.Test.YtfdecbfcddkoiaaGreatDoorSpeltA
import Derived.Test.YtfdecbfcddkoiaaGreatDoorOwnB
import Derived.Lib.AppendStr
namespace Go.Proofs.YtfdecbfcddkoiaaGreatDoor
section
open Go.RowKit

theorem seqS_snoc {α : Type} (one : α → Nat → List UInt8 × Nat) : ∀ (l : List α) (x : α) (n : Nat), seqS one (l ++ [x]) n = ((seqS one l n).1 ++ [(one x (seqS one l n).2).1], (one x (seqS one l n).2).2)
  | [], _, _ => rfl
  | y :: l, x, n => by
    rw [List.cons_append, seqS, seqS_snoc one l x, seqS]
    rfl
theorem seqS_len {α : Type} (one : α → Nat → List UInt8 × Nat) : ∀ (l : List α) (n : Nat), (seqS one l n).1.length = l.length
  | [], _ => rfl
  | y :: l, n => by rw [seqS, List.length_cons, seqS_len one l, List.length_cons]
theorem seqS_take {α : Type} (one : α → Nat → List UInt8 × Nat) {l : List α} {j : Nat} {x : α} (h : l[j]? = some x) (n : Nat) :
    seqS one (l.take (j + 1)) n = ((seqS one (l.take j) n).1 ++ [(one x (seqS one (l.take j) n).2).1], (one x (seqS one (l.take j) n).2).2) := by
  rw [← seqS_snoc, List.take_add_one, h]
  rfl
theorem rot_at {α : Type} {k j : Nat} {l : List α} (hj : j < l.length) : (rot k l)[j]? = l[(k + j) % l.length]? := by
  have hk : k % l.length < l.length := Nat.mod_lt _ (by omega)
  have hm : (k + j) % l.length = (k % l.length + j) % l.length := by rw [Nat.mod_add_mod]
  rw [hm]
  unfold rot
  obtain ⟨q, hq⟩ : ∃ q, k % l.length = q := ⟨_, rfl⟩
  rw [hq] at hk ⊢
  by_cases h : q + j < l.length
  · rw [List.getElem?_append_left (by rw [List.length_drop]; omega), List.getElem?_drop, Nat.mod_eq_of_lt h]
  · rw [List.getElem?_append_right (by rw [List.length_drop]; omega), List.length_drop, List.getElem?_take_of_lt (by omega)]
    have e : (q + j) % l.length = q + j - l.length := by
      rw [Nat.mod_eq_sub_mod (by omega)]
      exact Nat.mod_eq_of_lt (by omega)
    rw [e]
    congr 1
    omega
theorem rot_len {α : Type} (k : Nat) (l : List α) : (rot k l).length = l.length := by
  unfold rot
  rw [List.length_append, List.length_drop, List.length_take]
  by_cases h : l.length = 0
  · omega
  · have := Nat.mod_lt k (show 0 < l.length by omega)
    omega
end

section
open Go.RowKit

set_option maxRecDepth 100000 in
set_option maxHeartbeats 8000000 in
theorem spValue_1 {w0 w : World} {r : Nat} {a : Option Addr} {how : List UInt8} {n : Nat} (V : JV) (v : Value) (hv : ValAt w0 V v) (_hB : Below w0.heap.size w0 w) (_hr : w0.heap.size ≤ r) (h : SpAt w r a how n) (hn : n ≤ 999999990) (f : Nat) (hk : Hid (V.k = 1)) :
    Calls Tryz.prog 11 #[.pointer (some ⟨r, 0, none⟩), v] w fun e w' => e = .returned (.string ⟨(valS how (f + 1) V n).1.toArray⟩) ∧ w.grownBy w' (some r) ∧ SpAt w' r a how (valS how (f + 1) V n).2 := by
  obtain ⟨vn, vi, rfl, k0, k1, n0, n1, ht, hns, his⟩ := valAt_iff.1 hv
  obtain ⟨ai, icap, rfl, hI1, -⟩ := his.parts
  obtain ⟨an, ncap, rfl, -, -, -⟩ := hns.parts
  obtain ⟨w2, hw2⟩ : ∃ x, x = w.alloc (.cells #[.int .u8 V.k, .int .i64 V.n, .string V.t, .slice an V.names.length ncap, .slice ai V.items.length icap] 26) := ⟨_, rfl⟩
  have hB2 : Below w.heap.size w w2 := by rw [hw2]; exact bel_alloc (Below.refl _ _) _
  have a0 : w2.cell? ⟨w.heap.size, 0, none⟩ = some (.int .u8 V.k) := by rw [hw2, cell_al_eq _ _ _ _ _ rfl]; rfl
  have a1 : w2.cell? ⟨w.heap.size, 1, none⟩ = some (.int .i64 V.n) := by rw [hw2, cell_al_eq _ _ _ _ _ rfl]; rfl
  have hsz2 : w2.heap.size = w.heap.size + 1 := by rw [hw2, size_al]
  have HW := Lib.hid hw2
  have hS2 := h.keep hB2
  have hb := blankS_n how n
  have hlt : r < w.heap.size := by obtain ⟨l, c, hb, -⟩ := h.blk; exact hb.lt
  obtain ⟨B1, hB1⟩ : ∃ B, blankS how n = B := ⟨_, rfl⟩
  have HN1 := Lib.hid (spBlank_any hS2 (by omega))
  rw [hB1] at HN1 hb
  have q1 : (V.k == 1) = true := by rw [hk.out]; rfl
  have hval : valS how (f + 1) V n = (B1.1 ++ ((if V.n = 1 then [116, 114, 117, 101] else [102, 97, 108, 115, 101]) ++ (blankS how B1.2).1), (blankS how B1.2).2) := by
    rw [valS, hB1, bodyS, if_pos hk.out]
  obtain ⟨B2, hB2e⟩ : ∃ B, blankS how B1.2 = B := ⟨_, rfl⟩
  have hb2 := blankS_n how B1.2
  rw [hB2e] at hval hb2
  rw [hval]
  clear hval
  obtain ⟨M, hM⟩ : ∃ M : List UInt8, (if V.n = 1 then [116, 114, 117, 101] else [102, 97, 108, 115, 101]) = M := ⟨_, rfl⟩
  rw [hM]
  have HM := Lib.hid hM
  clear hM
  have HB2 := Lib.hid hB2e
  have hl1 : (⟨B1.1.toArray⟩ : ByteArray).size = B1.1.length := rfl
  have hl2 : (⟨B2.1.toArray⟩ : ByteArray).size = B2.1.length := rfl
  clear hB2e hB1
  clear hw2 h hns his hv hS2
  go_enter Tryz.func11, Tryz.ntmps11
  go_wp2_with fail
  rw [← HW.out]
  refine HN1.out.mono ?_
  rintro e w3 ⟨rfl, hg3, hs3⟩
  have d0 := (hg3.cell_far ⟨w.heap.size, 0, none⟩ (by show w.heap.size < _; omega) (fun e => by have h5 : w.heap.size = r := Option.some.inj e; omega)).trans a0
  have d1 := (hg3.cell_far ⟨w.heap.size, 1, none⟩ (by show w.heap.size < _; omega) (fun e => by have h5 : w.heap.size = r := Option.some.inj e; omega)).trans a1
  have hg0 := (grown_of hB2 (some r)).trans hg3
  have HN2 := Lib.hid (spBlank_any hs3 (by omega))
  rw [HB2.out] at HN2
  have HG := Lib.hid hg0
  clear hg3 hs3 hg0 a0 a1
  by_cases hn1 : V.n = 1
  · have hnb : (V.n == 1) = true := by rw [hn1]; rfl
    have hM : M = [116, 114, 117, 101] := by rw [← HM.out, if_pos hn1]
    subst hM
    clear hn1 HM
    go_wp2_with fail
    refine HN2.out.mono ?_
    rintro e w4 ⟨rfl, hg4, hs4⟩
    have HS4 := Lib.hid hs4
    have HG4 := Lib.hid (HG.out.trans hg4)
    clear hg4 hs4
    go_wp2_with fail
    go_ret
    refine ⟨?_, HG4.out, HS4.out⟩
    refine congrArg (fun x => Ending.returned (Value.string x)) (bytes_ext ?_)
    simp [ByteArray.data_append]
  · have hnb : (V.n == 1) = false := beq_eq_false_iff_ne.2 hn1
    have hM : M = [102, 97, 108, 115, 101] := by rw [← HM.out, if_neg hn1]
    subst hM
    clear hn1 HM
    go_wp2_with fail
    refine HN2.out.mono ?_
    rintro e w4 ⟨rfl, hg4, hs4⟩
    have HS4 := Lib.hid hs4
    have HG4 := Lib.hid (HG.out.trans hg4)
    clear hg4 hs4
    go_wp2_with fail
    go_ret
    refine ⟨?_, HG4.out, HS4.out⟩
    refine congrArg (fun x => Ending.returned (Value.string x)) (bytes_ext ?_)
    simp [ByteArray.data_append]
set_option maxRecDepth 100000 in
set_option maxHeartbeats 8000000 in
theorem spValue_2 {w0 w : World} {r : Nat} {a : Option Addr} {how : List UInt8} {n : Nat} (V : JV) (v : Value) (hv : ValAt w0 V v) (_hB : Below w0.heap.size w0 w) (_hr : w0.heap.size ≤ r) (h : SpAt w r a how n) (hn : n ≤ 999999990) (f : Nat) (hk : Hid (V.k = 2)) (hv0 : -9223372036854775808 ≤ V.n) (hv1 : V.n ≤ 9223372036854775807) :
    Calls Tryz.prog 11 #[.pointer (some ⟨r, 0, none⟩), v] w fun e w' => e = .returned (.string ⟨(valS how (f + 1) V n).1.toArray⟩) ∧ w.grownBy w' (some r) ∧ SpAt w' r a how (valS how (f + 1) V n).2 := by
  obtain ⟨vn, vi, rfl, k0, k1, n0, n1, ht, hns, his⟩ := valAt_iff.1 hv
  obtain ⟨ai, icap, rfl, hI1, -⟩ := his.parts
  obtain ⟨an, ncap, rfl, -, -, -⟩ := hns.parts
  obtain ⟨w2, hw2⟩ : ∃ x, x = w.alloc (.cells #[.int .u8 V.k, .int .i64 V.n, .string V.t, .slice an V.names.length ncap, .slice ai V.items.length icap] 26) := ⟨_, rfl⟩
  have hB2 : Below w.heap.size w w2 := by rw [hw2]; exact bel_alloc (Below.refl _ _) _
  have a0 : w2.cell? ⟨w.heap.size, 0, none⟩ = some (.int .u8 V.k) := by rw [hw2, cell_al_eq _ _ _ _ _ rfl]; rfl
  have a1 : w2.cell? ⟨w.heap.size, 1, none⟩ = some (.int .i64 V.n) := by rw [hw2, cell_al_eq _ _ _ _ _ rfl]; rfl
  have hsz2 : w2.heap.size = w.heap.size + 1 := by rw [hw2, size_al]
  have HW := Lib.hid hw2
  have hS2 := h.keep hB2
  have hb := blankS_n how n
  have hlt : r < w.heap.size := by obtain ⟨l, c, hb, -⟩ := h.blk; exact hb.lt
  obtain ⟨B1, hB1⟩ : ∃ B, blankS how n = B := ⟨_, rfl⟩
  have HN1 := Lib.hid (spBlank_any hS2 (by omega))
  rw [hB1] at HN1 hb
  have q1 : (V.k == 1) = false := by rw [hk.out]; rfl
  have q2 : (V.k == 2) = true := by rw [hk.out]; rfl
  have hval : valS how (f + 1) V n = (B1.1 ++ (Lib.itoa V.n ++ (blankS how B1.2).1), (blankS how B1.2).2) := by
    rw [valS, hB1, bodyS, if_neg (by rw [hk.out]; decide), if_pos hk.out]
  obtain ⟨B2, hB2e⟩ : ∃ B, blankS how B1.2 = B := ⟨_, rfl⟩
  have hb2 := blankS_n how B1.2
  rw [hB2e] at hval hb2
  rw [hval]
  clear hval
  obtain ⟨M, hM⟩ : ∃ M : List UInt8, Lib.itoa V.n = M := ⟨_, rfl⟩
  rw [hM]
  have hml := itoa_le hv0 hv1
  have HNM := Lib.hid fun w => spNumber_any V.n hv0 hv1 w
  rw [hM] at hml HNM
  have hl3 : (⟨M.toArray⟩ : ByteArray).size = M.length := rfl
  clear hM
  have HB2 := Lib.hid hB2e
  have hl1 : (⟨B1.1.toArray⟩ : ByteArray).size = B1.1.length := rfl
  have hl2 : (⟨B2.1.toArray⟩ : ByteArray).size = B2.1.length := rfl
  clear hB2e hB1
  clear hw2 h hns his hv hS2
  go_enter Tryz.func11, Tryz.ntmps11
  go_wp2_with fail
  rw [← HW.out]
  refine HN1.out.mono ?_
  rintro e w3 ⟨rfl, hg3, hs3⟩
  have d0 := (hg3.cell_far ⟨w.heap.size, 0, none⟩ (by show w.heap.size < _; omega) (fun e => by have h5 : w.heap.size = r := Option.some.inj e; omega)).trans a0
  have d1 := (hg3.cell_far ⟨w.heap.size, 1, none⟩ (by show w.heap.size < _; omega) (fun e => by have h5 : w.heap.size = r := Option.some.inj e; omega)).trans a1
  have hg0 := (grown_of hB2 (some r)).trans hg3
  have HS3 := Lib.hid hs3
  have HG := Lib.hid hg0
  clear hg3 hs3 hg0 a0 a1
  go_wp2_with fail
  refine (HNM.out _).mono ?_
  rintro e w5 ⟨rfl, hb5⟩
  have HN2 := Lib.hid (spBlank_any (HS3.out.keep hb5) (by omega))
  rw [HB2.out] at HN2
  have HG5 := Lib.hid (HG.out.trans (grown_of hb5 (some r)))
  clear hb5
  go_wp2_with fail
  refine HN2.out.mono ?_
  rintro e w4 ⟨rfl, hg4, hs4⟩
  have HS4 := Lib.hid hs4
  have HG4 := Lib.hid (HG5.out.trans hg4)
  clear hg4 hs4
  go_wp2_with fail
  go_ret
  refine ⟨?_, HG4.out, HS4.out⟩
  refine congrArg (fun x => Ending.returned (Value.string x)) (bytes_ext ?_)
  simp [ByteArray.data_append]
set_option maxRecDepth 100000 in
set_option maxHeartbeats 8000000 in
theorem spValue_3 {w0 w : World} {r : Nat} {a : Option Addr} {how : List UInt8} {n : Nat} (V : JV) (v : Value) (hv : ValAt w0 V v) (_hB : Below w0.heap.size w0 w) (_hr : w0.heap.size ≤ r) (h : SpAt w r a how n) (hn : n + V.t.size ≤ 999999990) (f : Nat) (hk : Hid (V.k = 3)) (hts : V.t.size ≤ 1000000) (htw : Hid (writ V.t = true)) :
    Calls Tryz.prog 11 #[.pointer (some ⟨r, 0, none⟩), v] w fun e w' => e = .returned (.string ⟨(valS how (f + 1) V n).1.toArray⟩) ∧ w.grownBy w' (some r) ∧ SpAt w' r a how (valS how (f + 1) V n).2 := by
  obtain ⟨vn, vi, rfl, k0, k1, n0, n1, ht, hns, his⟩ := valAt_iff.1 hv
  obtain ⟨ai, icap, rfl, hI1, -⟩ := his.parts
  obtain ⟨an, ncap, rfl, -, -, -⟩ := hns.parts
  obtain ⟨w2, hw2⟩ : ∃ x, x = w.alloc (.cells #[.int .u8 V.k, .int .i64 V.n, .string V.t, .slice an V.names.length ncap, .slice ai V.items.length icap] 26) := ⟨_, rfl⟩
  have hB2 : Below w.heap.size w w2 := by rw [hw2]; exact bel_alloc (Below.refl _ _) _
  have a0 : w2.cell? ⟨w.heap.size, 0, none⟩ = some (.int .u8 V.k) := by rw [hw2, cell_al_eq _ _ _ _ _ rfl]; rfl
  have a1 : w2.cell? ⟨w.heap.size, 2, none⟩ = some (.string V.t) := by rw [hw2, cell_al_eq _ _ _ _ _ rfl]; rfl
  have hsz2 : w2.heap.size = w.heap.size + 1 := by rw [hw2, size_al]
  have HW := Lib.hid hw2
  have hS2 := h.keep hB2
  have hb := blankS_n how n
  have hlt : r < w.heap.size := by obtain ⟨l, c, hb, -⟩ := h.blk; exact hb.lt
  obtain ⟨B1, hB1⟩ : ∃ B, blankS how n = B := ⟨_, rfl⟩
  have HN1 := Lib.hid (spBlank_any hS2 (by omega))
  rw [hB1] at HN1 hb
  have q1 : (V.k == 1) = false := by rw [hk.out]; rfl
  have q2 : (V.k == 2) = false := by rw [hk.out]; rfl
  have q3 : (V.k == 3) = true := by rw [hk.out]; rfl
  obtain ⟨M, hM⟩ : ∃ M, quoteS how V.t B1.2 = M := ⟨_, rfl⟩
  obtain ⟨B2, hB2e⟩ : ∃ B, blankS how M.2 = B := ⟨_, rfl⟩
  have hval : valS how (f + 1) V n = (B1.1 ++ (M.1 ++ B2.1), B2.2) := by
    rw [valS, hB1, bodyS, if_neg (by rw [hk.out]; decide), if_neg (by rw [hk.out]; decide), if_pos hk.out, hM, hB2e]
  have hml := quoteS_n how V.t B1.2
  have hb2 := blankS_n how M.2
  rw [hM] at hml
  rw [hB2e] at hb2
  rw [hval]
  have HB2 := Lib.hid hB2e
  have HM := Lib.hid hM
  have hl3 : (⟨M.1.toArray⟩ : ByteArray).size = M.1.length := rfl
  clear hval hM
  have hl1 : (⟨B1.1.toArray⟩ : ByteArray).size = B1.1.length := rfl
  have hl2 : (⟨B2.1.toArray⟩ : ByteArray).size = B2.1.length := rfl
  clear hB2e hB1
  clear hw2 h hns his hv hS2
  go_enter Tryz.func11, Tryz.ntmps11
  go_wp2_with fail
  rw [← HW.out]
  refine HN1.out.mono ?_
  rintro e w3 ⟨rfl, hg3, hs3⟩
  have d0 := (hg3.cell_far ⟨w.heap.size, 0, none⟩ (by show w.heap.size < _; omega) (fun e => by have h5 : w.heap.size = r := Option.some.inj e; omega)).trans a0
  have d1 := (hg3.cell_far ⟨w.heap.size, 2, none⟩ (by show w.heap.size < _; omega) (fun e => by have h5 : w.heap.size = r := Option.some.inj e; omega)).trans a1
  have hg0 := (grown_of hB2 (some r)).trans hg3
  have HN3 := Lib.hid (spText_any hs3 V.t hts (by omega) htw.out)
  rw [HM.out] at HN3
  have HG := Lib.hid hg0
  clear hg3 hs3 hg0 a0 a1
  go_wp2_with fail
  refine HN3.out.mono ?_
  rintro e w5 ⟨rfl, hg5, hs5⟩
  have HN2 := Lib.hid (spBlank_any hs5 (by omega))
  rw [HB2.out] at HN2
  have HG5 := Lib.hid (HG.out.trans hg5)
  clear hg5 hs5
  go_wp2_with fail
  refine HN2.out.mono ?_
  rintro e w4 ⟨rfl, hg4, hs4⟩
  have HS4 := Lib.hid hs4
  have HG4 := Lib.hid (HG5.out.trans hg4)
  clear hg4 hs4
  go_wp2_with fail
  go_ret
  refine ⟨?_, HG4.out, HS4.out⟩
  refine congrArg (fun x => Ending.returned (Value.string x)) (bytes_ext ?_)
  simp [ByteArray.data_append]
end

section
open Go.RowKit

theorem run_storeCells_G (P : Program) (g o : Nat) (t : TypeId) (fz : Nat × Nat) : ∀ (vs : List Value) (i : Nat) (cur : Array Value) (w : World), w.heap[g]? = some (.cells cur t fz) → (fz.2 = 0 ∨ o + i + vs.length ≤ fz.1) → o + i + vs.length ≤ cur.size → (∀ v ∈ vs, v.oneCell' = true) →
    (storeCells ⟨g, o, none⟩ vs i).run P w = .ok () (w.setRow g (cur.toList.take (o + i) ++ vs ++ cur.toList.drop (o + i + vs.length)).toArray)
  | [], i, cur, w, hg, _, _, _ => by
    simp only [storeCells, List.append_nil, List.length_nil, Nat.add_zero, List.take_append_drop, Array.toArray_toList]
    rw [setRow_self w g cur t fz hg]
    rfl
  | v :: rest, i, cur, w, hg, hfz, hl, h1 => by
    have hi : o + i < cur.size := by simp at hl; omega
    have hadd : (⟨g, o, none⟩ : Addr).add i = ⟨g, o + i, none⟩ := by unfold Addr.add; split <;> simp_all
    have hcell : w.cell? ⟨g, o + i, none⟩ = some cur[o + i] := by simp [World.cell?, hg, hi]
    have hfro : w.frozen? ⟨g, o + i, none⟩ = false := by
      obtain ⟨lo, hi'⟩ := fz
      simp only [World.frozen?, hg, Bool.and_eq_false_iff, decide_eq_false_iff_not]
      simp only [List.length_cons] at hfz
      omega
    have hst : (store ((⟨g, o, none⟩ : Addr).add i) v).run P w = .ok () (w.setRow g (cur.setIfInBounds (o + i) v)) := by
      rw [hadd, run_store P w _ v _ (h1 v (by simp)), hcell]
      simp [hfro, setCell_eq_setRow w g (o + i) cur t fz v hg]
    have ih := run_storeCells_G P g o t fz rest (i + 1) (cur.setIfInBounds (o + i) v) (w.setRow g (cur.setIfInBounds (o + i) v)) (setRow_heap w g cur _ t _ hg) (by simp only [List.length_cons] at hfz; omega) (by simp at hl ⊢; omega) (fun x hx => h1 x (by simp [hx]))
    simp only [storeCells, Sem.run_bind, hst, Result.andThen_ok, ih, setRow_setRow]
    congr 3
    have e := list_seg_step cur.toList (o + i) v rest (by simp at hl ⊢; omega)
    simpa [Array.toList_setIfInBounds, Nat.add_assoc] using e

/-- A row of bytes of the call's own; what is frozen of its block lies behind its cells. -/
structure OwnG (w : World) (B g n cap : Nat) (l : List UInt8) : Prop where
  len : n = l.length
  low : B ≤ g
  blk : ∃ cur fz, w.heap[g]? = some (.cells cur 5 fz) ∧ (fz.2 = 0 ∨ cap ≤ fz.1) ∧ n ≤ cap ∧ cap ≤ maxLen ∧ cur.size = cap ∧ cur.toList.take n = byteVs l

theorem OwnG.lt {w : World} {B g n cap : Nat} {l : List UInt8} (h : OwnG w B g n cap l) : g < w.heap.size := by
  obtain ⟨cur, fz, hg, -⟩ := h.blk
  exact (Array.getElem?_eq_some_iff.1 hg).1
theorem OwnG.kept {w w' : World} {B g n cap : Nat} {row : Option Nat} {l : List UInt8} (h : OwnG w B g n cap l) (hg : w.grownBy w' row) (hne : row ≠ some g) : OwnG w' B g n cap l := by
  obtain ⟨cur, fz, h1, h2⟩ := h.blk
  exact ⟨h.len, h.low, cur, fz, (hg.block g (Array.getElem?_eq_some_iff.1 h1).1 (fun e => hne e.symm)).trans h1, h2⟩
theorem OwnG.cells {w : World} {B g n cap : Nat} {l : List UInt8} (h : OwnG w B g n cap l) : ∀ j u, (byteVs l)[j]? = some u → w.cell? ((⟨g, 0, none⟩ : Addr).add j) = some u := by
  intro j u hu
  obtain ⟨cur, fz, h1, -, -, -, -, ht⟩ := h.blk
  have hadd : (⟨g, 0, none⟩ : Addr).add j = ⟨g, j, none⟩ := by unfold Addr.add; split <;> simp_all
  rw [hadd, cell_of_row w g j cur _ fz h1]
  rw [← ht, List.getElem?_take] at hu
  split at hu
  · simpa using hu
  · cases hu
theorem OwnG.conv {w : World} {B g n cap : Nat} {l : List UInt8} (h : OwnG w B g n cap l) :
    (convert 32 9 (.slice (some ⟨g, 0, none⟩) n cap)).run Tryz.prog w = .ok (.string ⟨l.toArray⟩) w := by
  obtain rfl := h.len
  refine run_convert_bytes_back w _ _ _ ⟨g, 0, none⟩ cap l Tryz.underlying32 Tryz.underlying5 Tryz.underlying9 fun j hj => ?_
  exact h.cells j _ (by simp [byteVs, List.getElem?_eq_getElem hj])
/-- What a conversion of a text makes. -/
theorem ownG_of (w : World) (s : ByteArray) (cap : Nat) (h1 : s.size ≤ cap) (h2 : cap ≤ maxLen) {f : Nat} (hf : f = (bytesRow s cap).size) (w1 : World) (hw : w1.heap.size = w.heap.size) :
    OwnG (w1.alloc (.cells (bytesRow s cap) 5 (f, f + 1))) w.heap.size w.heap.size s.size cap s.data.toList := by
  have hsz : (bytesRow s cap).size = cap := by
    unfold bytesRow
    rw [Array.size_append, Array.size_map, Array.size_replicate]
    show s.size + (cap - s.size) = cap
    omega
  refine ⟨rfl, Nat.le_refl _, bytesRow s cap, (f, f + 1), ?_, .inr (by rw [hf, hsz]; exact Nat.le_refl _), h1, h2, hsz, ?_⟩
  · rw [← hw]
    exact heap_alloc_new w1 _
  · unfold bytesRow byteVs
    rw [Array.toList_append, List.take_append_of_le_length (by simp)]
    rw [Array.toList_map]
    exact List.take_of_length_le (by simp)

section
variable (w : World)
theorem run_append_G (x : Value) (u ty : TypeId) (m : Nat) (news : List UInt8) (hm : m = news.length) (i : TypeInfo) (_hi : Tryz.prog.info? 5 = some i) (_hz : i.zero = some (.int .u8 0)) (_hsize : i.size = 1) {B g n cap : Nat} {l : List UInt8} (h : OwnG w B g n cap l)
    (hroom : ∀ cur fz, w.heap[g]? = some (.cells cur 5 fz) → (fz.2 = 0 ∨ n + m ≤ fz.1) → n + m ≤ cap → n + m ≤ cur.size → (Builtin.append_ #[32, u] ty #[.slice (some ⟨g, 0, none⟩) n cap, x]).run Tryz.prog w =
      .ok (.slice (some ⟨g, 0, none⟩) (n + m) cap) (w.setRow g (cur.toList.take n ++ byteVs news ++ cur.toList.drop (n + m)).toArray))
    (hgrow : cap < n + m → (Builtin.append_ #[32, u] ty #[.slice (some ⟨g, 0, none⟩) n cap, x]).run Tryz.prog w =
      .ok (.slice (some ⟨w.heap.size, 0, none⟩) (n + m) (grownCap w (n + m) cap 5))
        (w.drew.alloc (.cells ((byteVs l).toArray ++ (byteVs news).toArray ++ Builtin.zeroCells (Value.int .u8 0).cells (grownCap w (n + m) cap 5 - (n + m))) 5)))
    (h63 : n + m ≤ maxLen) (hbase : B ≤ w.heap.size) :
    ∃ g2 cap2 w', (Builtin.append_ #[32, u] ty #[.slice (some ⟨g, 0, none⟩) n cap, x]).run Tryz.prog w = .ok (.slice (some ⟨g2, 0, none⟩) (n + m) cap2) w' ∧ OwnG w' B g2 (n + m) cap2 (l ++ news) ∧ w.grownBy w' (some g) := by
  obtain ⟨hn, hB, cur, fz, hg, hfz, hnc, hcm, hcs, ht⟩ := h
  have hlen : n + m = (l ++ news).length := by rw [List.length_append, ← hn, ← hm]
  by_cases hr : n + m ≤ cap
  · refine ⟨g, cap, _, hroom cur fz hg (by omega) hr (by omega), ⟨hlen, hB, _, fz, setRow_heap w g cur _ _ _ hg, hfz, hr, hcm, ?_, ?_⟩, ⟨rfl, rfl, rfl, by simp, fun k _ hk => setRow_other w g k _ (fun e => hk (by rw [e]))⟩⟩
    · simp only [List.size_toArray, List.length_append, List.length_take, List.length_drop, Array.length_toList, byteVs_len]
      omega
    · rw [ht, List.take_append_of_le_length (by rw [List.length_append, byteVs_len, byteVs_len]; omega)]
      rw [List.take_of_length_le (by rw [List.length_append, byteVs_len, byteVs_len]; omega)]
      simp [byteVs]
  · have hge := grownCap_ge w (n + m) cap 5
    have hcm2 : grownCap w (n + m) cap 5 ≤ maxLen := grownCap_le_maxLen w (n + m) cap _ h63
    refine ⟨w.heap.size, _, _, hgrow (by omega), ⟨hlen, hbase, _, (0, 0), heap_alloc_new w.drew _, .inl rfl, hge, hcm2, ?_, ?_⟩, ⟨rfl, rfl, rfl, by simp, fun k hk _ => heap_alloc_old w.drew _ hk⟩⟩
    · have hz1 : (Value.int IntKind.u8 0).cells.size = 1 := rfl
      simp only [Array.size_append, List.size_toArray, size_zeroCells, hz1, byteVs_len]
      omega
    · simp only [Array.toList_append, List.append_assoc]
      rw [← List.append_assoc, List.take_append_of_le_length (by rw [List.length_append, byteVs_len, byteVs_len]; omega)]
      rw [List.take_of_length_le (by rw [List.length_append, byteVs_len, byteVs_len]; omega)]
      simp [byteVs]
theorem strCells_byteVs (s : ByteArray) : Lib.strCells s = byteVs s.data.toList := rfl
theorem run_append_str_G (ty : TypeId) (i : TypeInfo) (hi : Tryz.prog.info? 5 = some i) (hz : i.zero = some (.int .u8 0)) (hsize : i.size = 1) (hby : i.bytes = 1) {B g n cap : Nat} {l : List UInt8} (h : OwnG w B g n cap l) (s : ByteArray)
    (h63 : n + s.size ≤ maxLen) (hbytes : n + s.size ≤ 140737488355328) (hbase : B ≤ w.heap.size) :
    ∃ g2 cap2 w', (Builtin.append_ #[32, 9] ty #[.slice (some ⟨g, 0, none⟩) n cap, .string s]).run Tryz.prog w = .ok (.slice (some ⟨g2, 0, none⟩) (n + s.size) cap2) w' ∧ OwnG w' B g2 (n + s.size) cap2 (l ++ s.data.toList) ∧ w.grownBy w' (some g) := by
  have hn := h.len
  refine run_append_G w (.string s) 9 ty s.size s.data.toList rfl i hi hz hsize h ?_ ?_ h63 hbase
  · intro cur fz hg hfz hroom hfit
    have hf := Lib.run_firstCells_string (P := Tryz.prog) w 1 s
    have hst := run_storeCells_G Tryz.prog g n 5 fz (Lib.strCells s) 0 cur w hg (by rw [Lib.strCells_length]; omega) (by rw [Lib.strCells_length]; omega) (Lib.strCells_oneCell s)
    simp only [Nat.add_zero, Lib.strCells_length] at hst
    rw [← strCells_byteVs]
    simp [Builtin.append_, run_underlying Tryz.underlying32, run_underlying Tryz.underlying9, sizeOf, typeInfo, hi, hsize, Builtin.lenOf, hroom, hf, Addr.add_lit, hst]
  · intro hlt
    exact Lib.run_append_grow_string w 32 9 ty 5 i (.int .u8 0) Tryz.underlying32 Tryz.underlying9 hi hz ⟨g, 0, none⟩ n cap (byteVs l) (by rw [hsize, byteVs_len, hn]; omega) h.cells s hlt (by simp only [maxLen] at h63; omega) (by rw [hby]; exact growslice_fits (by omega) (by omega))
theorem run_append_one_G (ty : TypeId) (i : TypeInfo) (hi : Tryz.prog.info? 5 = some i) (hz : i.zero = some (.int .u8 0)) (hsize : i.size = 1) (hby : i.bytes = 1) {B g n cap : Nat} {l : List UInt8} (h : OwnG w B g n cap l) (ad : Addr) (c : Nat) (x : UInt8) (hx : w.cell? ad = some (.int .u8 (x.toNat : Int)))
    (h63 : n + 1 ≤ maxLen) (hbytes : n + 1 ≤ 140737488355328) (hbase : B ≤ w.heap.size) :
    ∃ g2 cap2 w', (Builtin.append_ #[32, 32] ty #[.slice (some ⟨g, 0, none⟩) n cap, .slice (some ad) 1 c]).run Tryz.prog w = .ok (.slice (some ⟨g2, 0, none⟩) (n + 1) cap2) w' ∧ OwnG w' B g2 (n + 1) cap2 (l ++ [x]) ∧ w.grownBy w' (some g) := by
  have hn := h.len
  have hnews : ∀ j u, (byteVs [x])[j]? = some u → w.cell? (ad.add j) = some u := by
    intro j u hj
    match j, hj with
    | 0, hj =>
      obtain rfl : Value.int .u8 (x.toNat : Int) = u := Option.some.inj hj
      have : ad.add 0 = ad := by unfold Addr.add; split <;> simp_all
      rw [this]
      exact hx
  have h1 : ∀ u ∈ byteVs [x], u.oneCell' = true := one_cell _
  refine run_append_G w (.slice (some ad) 1 c) 32 ty 1 [x] rfl i hi hz hsize h ?_ ?_ h63 hbase
  · intro cur fz hg hfz hroom hfit
    have hf := run_firstCells_some (P := Tryz.prog) w 1 1 ad 1 c (byteVs [x]) rfl hnews
    have hst := run_storeCells_G Tryz.prog g n 5 fz (byteVs [x]) 0 cur w hg (by rw [byteVs_len]; simpa using hfz) (by rw [byteVs_len]; simpa using hfit) h1
    simp only [Nat.add_zero, byteVs_len, List.length_singleton] at hst
    simp [Builtin.append_, run_underlying Tryz.underlying32, sizeOf, typeInfo, hi, hsize, Builtin.lenOf, hroom, hf, Addr.add_lit, hst]
  · intro hlt
    exact run_append_grow w 32 ty 5 i (.int .u8 0) Tryz.underlying32 hi hz ⟨g, 0, none⟩ n cap (byteVs l) (by rw [hsize, byteVs_len, hn]; omega) h.cells ad 1 c (byteVs [x]) (by rw [hsize]; rfl) hnews hlt (by simp only [maxLen] at h63; omega) (by rw [hby]; exact growslice_fits (by omega) (by omega))

theorem wp_append_str_G {ops : Array Oper} {rest : List Oper} {o : Oper} {a : Act} {Q : Exit → Act → World → Prop} (hgd : o.guard = none) (sl x : Operand)
    (ho : o.op = .call { callee := .builtin .append, args := #[sl, x], argTypes := #[32, 9] })
    (i : TypeInfo) (hi : Tryz.prog.info? 5 = some i) (hz : i.zero = some (.int .u8 0)) (hsize : i.size = 1) (hby : i.bytes = 1)
    {B g n cap : Nat} {l : List UInt8} (hs : a.eval sl = .slice (some ⟨g, 0, none⟩) n cap) (hown : OwnG w B g n cap l) (s : ByteArray) (hx : a.eval x = .string s)
    (h63 : n + s.size ≤ maxLen) (hbytes : n + s.size ≤ 140737488355328) (hbase : B ≤ w.heap.size)
    (h : ∀ g2 cap2 w', OwnG w' B g2 (n + s.size) cap2 (l ++ s.data.toList) → w.grownBy w' (some g) → wpList Tryz.prog ops Q rest (a.put o.dst (.slice (some ⟨g2, 0, none⟩) (n + s.size) cap2)) w') : wpList Tryz.prog ops Q (o :: rest) a w := by
  refine wpList_plain hgd fun K hK => ?_
  obtain ⟨g2, cap2, w', hr, h2, h3⟩ := run_append_str_G w o.type i hi hz hsize hby hown s h63 hbytes hbase
  unfold Oper.wp execOp
  simp only [ho, resolve, invoke, builtin, Sem.run_bind, Sem.run_pure, Result.andThen_ok, List.map_toArray, List.map_cons, List.map_nil, hs, hx, hr]
  exact hK _ _ (h g2 cap2 w' h2 h3)
theorem wp_append_one_G {ops : Array Oper} {rest : List Oper} {o : Oper} {a : Act} {Q : Exit → Act → World → Prop} (hgd : o.guard = none) (sl x : Operand)
    (ho : o.op = .call { callee := .builtin .append, args := #[sl, x], argTypes := #[32, 32] })
    (i : TypeInfo) (hi : Tryz.prog.info? 5 = some i) (hz : i.zero = some (.int .u8 0)) (hsize : i.size = 1) (hby : i.bytes = 1)
    {B g n cap : Nat} {l : List UInt8} (hs : a.eval sl = .slice (some ⟨g, 0, none⟩) n cap) (hown : OwnG w B g n cap l) (ad : Addr) (c : Nat) (b : UInt8) (hx : a.eval x = .slice (some ad) 1 c) (hb : w.cell? ad = some (.int .u8 (b.toNat : Int)))
    (h63 : n + 1 ≤ maxLen) (hbytes : n + 1 ≤ 140737488355328) (hbase : B ≤ w.heap.size)
    (h : ∀ g2 cap2 w', OwnG w' B g2 (n + 1) cap2 (l ++ [b]) → w.grownBy w' (some g) → wpList Tryz.prog ops Q rest (a.put o.dst (.slice (some ⟨g2, 0, none⟩) (n + 1) cap2)) w') : wpList Tryz.prog ops Q (o :: rest) a w := by
  refine wpList_plain hgd fun K hK => ?_
  obtain ⟨g2, cap2, w', hr, h2, h3⟩ := run_append_one_G w o.type i hi hz hsize hby hown ad c b hb h63 hbytes hbase
  unfold Oper.wp execOp
  simp only [ho, resolve, invoke, builtin, Sem.run_bind, Sem.run_pure, Result.andThen_ok, List.map_toArray, List.map_cons, List.map_nil, hs, hx, hr]
  exact hK _ _ (h g2 cap2 w' h2 h3)
end
end

section
open Go.RowKit

theorem sum_take_le {α : Type} (c : α → Nat) (l : List α) (j : Nat) : ((l.take j).map c).sum ≤ (l.map c).sum := by
  have e : l.map c = (l.take j).map c ++ (l.drop j).map c := by rw [← List.map_append, List.take_append_drop]
  rw [e, List.sum_append]
  omega
theorem sum_take_more {α : Type} (c : α → Nat) {l : List α} {j : Nat} {x : α} (h : l[j]? = some x) : ((l.take (j + 1)).map c).sum = ((l.take j).map c).sum + c x := by
  rw [List.take_add_one, h]
  simp
/-- As many of a row as have been written: how long they are. -/
theorem seqS_bound {α : Type} {one : α → Nat → List UInt8 × Nat} {c : α → Nat} (l : List α) (n : Nat) (h : ∀ x ∈ l, ∀ m, (one x m).2 ≤ m + c x ∧ (one x m).1.length + 1 ≤ 12 * c x) : (seqS one l n).2 ≤ n + (l.map c).sum ∧ (joinC (seqS one l n).1).length ≤ 12 * (l.map c).sum := by
  have h1 := seqS_n l n h
  have h2 := joinC_le (seqS one l n).1
  exact ⟨h1.1, by omega⟩
theorem joinS_step {α : Type} (one : α → Nat → List UInt8 × Nat) {l : List α} {j : Nat} {x : α} (h : l[j]? = some x) (n : Nat) :
    joinC (seqS one (l.take (j + 1)) n).1 = joinC (seqS one (l.take j) n).1 ++ ((if j = 0 then [] else [44]) ++ (one x (seqS one (l.take j) n).2).1) ∧ (seqS one (l.take (j + 1)) n).2 = (one x (seqS one (l.take j) n).2).2 := by
  have hjl : j < l.length := (List.getElem?_eq_some_iff.1 h).1
  rw [seqS_take one h n, joinC_snoc]
  refine ⟨?_, rfl⟩
  have hl := seqS_len one (l.take j) n
  rw [List.length_take, Nat.min_eq_left (by omega)] at hl
  by_cases hj : j = 0
  · subst hj
    simp [seqS, joinC]
  · rw [if_neg (fun e => by rw [e] at hl; simp at hl; omega), if_neg hj]
    rfl
/-- A value that lies in w0 is written. -/
def ValOK (w0 : World) (r : Nat) (a : Option Addr) (how : List UInt8) (f : Nat) (V : JV) : Prop :=
  ∀ (v : Value) (w : World) (n : Nat), ValAt w0 V v → Below w0.heap.size w0 w → SpAt w r a how n → n + wt V ≤ 900000000 →
    Calls Tryz.prog 11 #[.pointer (some ⟨r, 0, none⟩), v] w fun e w' => e = .returned (.string ⟨(valS how f V n).1.toArray⟩) ∧ w.grownBy w' (some r) ∧ SpAt w' r a how (valS how f V n).2

set_option maxRecDepth 100000 in
set_option maxHeartbeats 8000000 in
theorem spValue_4 {w0 w : World} {r : Nat} {a : Option Addr} {how : List UInt8} {n : Nat} (V : JV) (v : Value) (hv : ValAt w0 V v) (hB : Below w0.heap.size w0 w) (hr : w0.heap.size ≤ r) (h : SpAt w r a how n) (hn : n + wt V ≤ 900000000) (f : Nat) (hk : Hid (V.k = 4)) (hin : Hid (inVs V.items)) (hit : ∀ x ∈ V.items, ValOK w0 r a how f x) :
    Calls Tryz.prog 11 #[.pointer (some ⟨r, 0, none⟩), v] w fun e w' => e = .returned (.string ⟨(valS how (f + 1) V n).1.toArray⟩) ∧ w.grownBy w' (some r) ∧ SpAt w' r a how (valS how (f + 1) V n).2 := by
  obtain ⟨i0, hi, hz0, hz1, hz2⟩ := info_parts infoUb
  have HI := Lib.hid hi
  have HZ0 := Lib.hid hz0
  have HZ1 := Lib.hid hz1
  have HZ2 := Lib.hid hz2
  clear hi hz0 hz1 hz2
  have hwt := wt_eq V
  have hws := wtL_sum V.items
  obtain ⟨vn, vi, rfl, k0, k1, n0, n1, ht, hns, his⟩ := valAt_iff.1 hv
  obtain ⟨ai, icap, rfl, hI1, hI2⟩ := his.parts
  obtain ⟨an, ncap, rfl, -, -, -⟩ := hns.parts
  have HIC := Lib.hid hI2
  have HIT := Lib.hid hit
  clear hI2 hit
  obtain ⟨il, hil⟩ : ∃ x, V.items.length = x := ⟨_, rfl⟩
  rw [hil] at hI1
  obtain ⟨w2, hw2⟩ : ∃ x, x = w.alloc (.cells #[.int .u8 V.k, .int .i64 V.n, .string V.t, .slice an V.names.length ncap, .slice ai V.items.length icap] 26) := ⟨_, rfl⟩
  rw [hil] at hw2 ⊢
  have hB2 : Below w.heap.size w w2 := by rw [hw2]; exact bel_alloc (Below.refl _ _) _
  have hB02 : Below w0.heap.size w0 w2 := by rw [hw2]; exact bel_alloc hB _
  have a0 : w2.cell? ⟨w.heap.size, 0, none⟩ = some (.int .u8 V.k) := by rw [hw2, cell_al_eq _ _ _ _ _ rfl]; rfl
  have a4 : w2.cell? ⟨w.heap.size, 4, none⟩ = some (.slice ai il icap) := by rw [hw2, cell_al_eq _ _ _ _ _ rfl]; rfl
  have hsz2 : w2.heap.size = w.heap.size + 1 := by rw [hw2, size_al]
  have HIL := Lib.hid hil
  have HW := Lib.hid hw2
  have hS2 := h.keep hB2
  have HS2 := Lib.hid hS2
  have hb := blankS_n how n
  have hlt : r < w.heap.size := by obtain ⟨l, c, hb, -⟩ := h.blk; exact hb.lt
  obtain ⟨B1, hB1⟩ : ∃ B, blankS how n = B := ⟨_, rfl⟩
  have HN1 := Lib.hid (spBlank_any hS2 (by omega))
  rw [hB1] at HN1 hb
  have q1 : (V.k == 1) = false := by rw [hk.out]; rfl
  have q2 : (V.k == 2) = false := by rw [hk.out]; rfl
  have q3 : (V.k == 3) = false := by rw [hk.out]; rfl
  have q4 : (V.k == 4) = true := by rw [hk.out]; rfl
  obtain ⟨B2, hB2e⟩ : ∃ B, blankS how B1.2 = B := ⟨_, rfl⟩
  have hb2 := blankS_n how B1.2
  rw [hB2e] at hb2
  have hone : ∀ x ∈ V.items, ∀ m, (valS how f x m).2 ≤ m + wt x ∧ (valS how f x m).1.length + 1 ≤ 12 * wt x := fun x hx m => valS_n how f x m (inVs_mem hin.out hx)
  obtain ⟨T, hT⟩ : ∃ T, (fun j => seqS (valS how f) (V.items.take j) B2.2) = T := ⟨_, rfl⟩
  have hTb : ∀ j, (T j).2 ≤ B2.2 + ((V.items.take j).map wt).sum ∧ (joinC (T j).1).length ≤ 12 * ((V.items.take j).map wt).sum := fun j => by
    rw [← hT]
    exact seqS_bound _ _ fun x hx => hone x (List.mem_of_mem_take hx)
  have hTs : ∀ j x, V.items[j]? = some x → joinC (T (j + 1)).1 = joinC (T j).1 ++ ((if j = 0 then [] else [44]) ++ (valS how f x (T j).2).1) ∧ (T (j + 1)).2 = (valS how f x (T j).2).2 := fun j x hx => by
    rw [← hT]
    exact joinS_step (valS how f) hx B2.2
  have hT0 : T 0 = ([], B2.2) := by rw [← hT]; rfl
  have hTl : T il = seqS (valS how f) V.items B2.2 := by
    rw [← hT]
    show seqS (valS how f) (V.items.take il) B2.2 = _
    rw [← hil, List.take_length]
  obtain ⟨B4, hB4⟩ : ∃ B, blankS how (T il).2 = B := ⟨_, rfl⟩
  have hval : valS how (f + 1) V n = (B1.1 ++ ((91 :: (B2.1 ++ (joinC (T il).1 ++ [93]))) ++ B4.1), B4.2) := by
    rw [valS, hB1, bodyS, if_neg (by rw [hk.out]; decide), if_neg (by rw [hk.out]; decide), if_neg (by rw [hk.out]; decide), if_pos hk.out, hB2e, ← hTl]
    simp only []
    rw [hB4]
  have hb4 := blankS_n how (T il).2
  rw [hB4] at hb4
  rw [hval]
  have HB2 := Lib.hid hB2e
  have HB4 := Lib.hid hB4
  have HTB := Lib.hid hTb
  have HTS := Lib.hid hTs
  have HT0 := Lib.hid hT0
  have HON := Lib.hid hone
  have hsl := sum_take_le wt V.items
  have HSL := Lib.hid hsl
  have hTi := hTb il
  have hTii := hsl il
  have hl1 : (⟨B1.1.toArray⟩ : ByteArray).size = B1.1.length := rfl
  have hl2 : (⟨B2.1.toArray⟩ : ByteArray).size = B2.1.length := rfl
  have hl4 : (⟨B4.1.toArray⟩ : ByteArray).size = B4.1.length := rfl
  have kc := fun (w : World) (s : ByteArray) => run_bytes_of_string (P := Tryz.prog) w 9 32 5 s Tryz.underlying9 Tryz.underlying32 Tryz.underlying5
  have HK := Lib.hid hk
  clear hval hB2e hB1 hB4 hT hTb hTs hT0 hTl hone hsl
  clear hw2 h hns his hv hS2 hil
  go_enter Tryz.func11, Tryz.ntmps11
  go_wp2_with fail
  rw [← HW.out]
  refine HN1.out.mono ?_
  rintro e w3 ⟨rfl, hg3, hs3⟩
  have d0 := (hg3.cell_far ⟨w.heap.size, 0, none⟩ (by show w.heap.size < _; omega) (fun e => by have h5 : w.heap.size = r := Option.some.inj e; omega)).trans a0
  have d4 := (hg3.cell_far ⟨w.heap.size, 4, none⟩ (by show w.heap.size < _; omega) (fun e => by have h5 : w.heap.size = r := Option.some.inj e; omega)).trans a4
  have hsz3 := hg3.size
  have HG3 := Lib.hid hg3
  have HN2 := Lib.hid (spBlank_any hs3 (by omega))
  rw [HB2.out] at HN2
  clear hg3 hs3
  go_wp2_with fail
  refine HN2.out.mono ?_
  rintro e w4 ⟨rfl, hg4, hs4⟩
  have e4 := (hg4.cell_far ⟨w.heap.size, 4, none⟩ (by show w.heap.size < _; omega) (fun e => by have h5 : w.heap.size = r := Option.some.inj e; omega)).trans d4
  have hsz4 := hg4.size
  have HG4 := Lib.hid (HG3.out.trans hg4)
  have HS4 := Lib.hid hs4
  clear hg4 hs4 d0 d4
  go_wp2_with fail
  generalize hS : (⟨#[91]⟩ ++ ⟨B2.1.toArray⟩ : ByteArray) = S5
  have hSl : S5.data.toList = 91 :: B2.1 := by rw [← hS]; simp [ByteArray.data_append]
  have hSz : S5.size = 1 + B2.1.length := by rw [← size_len, hSl, List.length_cons]; omega
  have hcapge := grownCap_ge w4 (1 + B2.1.length) 0 5
  have hcaple := grownCap_le_maxLen w4 (1 + B2.1.length) 0 5 (by unfold maxLen; omega)
  generalize grownCap w4 (1 + B2.1.length) 0 5 = C5 at hcapge hcaple ⊢
  have hO5 := ownG_of w4 S5 C5 (by omega) hcaple rfl w4 rfl
  rw [hSl, hSz] at hO5
  have HO5 := Lib.hid (show OwnG (w4.alloc (.cells (bytesRow S5 C5) 5 ((bytesRow S5 C5).size, (bytesRow S5 C5).size + 1))).drew (w.heap.size + 1) w4.heap.size (1 + B2.1.length) C5 (91 :: (B2.1 ++ [])) from by rw [List.append_nil]; exact ⟨hO5.len, by omega, hO5.blk⟩)
  have hbw : Below w4.heap.size w4 (w4.alloc (.cells (bytesRow S5 C5) 5 ((bytesRow S5 C5).size, (bytesRow S5 C5).size + 1))).drew := bel_drew (bel_alloc (Below.refl w4.heap.size w4) _)
  have HG5 := Lib.hid (HG4.out.trans (grown_of hbw (some r)))
  have HS5 := Lib.hid (HS4.out.keep hbw)
  generalize (w4.alloc (.cells (bytesRow S5 C5) 5 ((bytesRow S5 C5).size, (bytesRow S5 C5).size + 1))).drew = w5 at HO5 HG5 HS5 ⊢
  generalize w4.heap.size = b5 at HO5 ⊢
  clear hO5 hbw hcaple hcapge hSl hS hSz
  have HO6 : Hid (OwnG w5 (w.heap.size + 1) b5 (1 + B2.1.length) C5 (91 :: (B2.1 ++ joinC (T 0).1))) := by show OwnG _ _ _ _ _ _; rw [HT0.out]; exact HO5.out
  have HS6 : Hid (SpAt w5 r a how (T 0).2) := by show SpAt _ _ _ _ _; rw [HT0.out]; exact HS5.out
  clear HO5 HS5
  go_loopw [6, 7] (fun v i wr => ∃ (j g m cap : Nat), j ≤ il ∧ i = .int .i64 j ∧ v = .slice (some ⟨g, 0, none⟩) m cap ∧ Hid (OwnG wr (w.heap.size + 1) g m cap (91 :: (B2.1 ++ joinC (T j).1))) ∧ Hid (w2.grownBy wr (some r)) ∧ Hid (SpAt wr r a how (T j).2)) (fun _ i _ => il - (intOf i).toNat)
  case atStart => exact ⟨0, b5, _, C5, by omega, rfl, rfl, HO6, HG5, HS6⟩
  case round =>
    obtain ⟨j, g, m, cap, hj, rfl, rfl, HO, HG, HSP⟩ := hrel
    clear HO6 HG5 HS6
    have hszr := HG.out.size
    have hgl := HO.out.lt
    have hgb := HO.out.low
    have hm : m ≤ 1 + B2.1.length + (joinC (T j).1).length := by rw [HO.out.len]; simp only [List.length_cons, List.length_append]; omega
    have e4r := (HG.out.cell_far ⟨w.heap.size, 4, none⟩ (by show w.heap.size < _; omega) (fun e => by have h5 : w.heap.size = r := Option.some.inj e; omega)).trans a4
    have htj := HTB.out j
    have hsj := HSL.out j
    by_cases hjl : j < il
    · obtain ⟨x, hx⟩ : ∃ x, V.items[j]? = some x := ⟨_, List.getElem?_eq_getElem (by rw [HIL.out]; exact hjl)⟩
      have hxm := List.mem_of_getElem? hx
      obtain ⟨ib, io, xn, xi, rfl, c0, c1, c2, c3, c4, b0, b1, b2, b3, b4', b5, b6⟩ := HIC.out j x hx
      have hvx : ValAt w0 x (.agg #[.int .u8 x.k, .int .i64 x.n, .string x.t, xn, xi]) := valAt_iff.2 ⟨_, _, rfl, b0, b1, b2, b3, b4', b5, b6⟩
      obtain ⟨xan, xncap, rfl, -, -, -⟩ := b5.parts
      obtain ⟨xai, xicap, rfl, -, -⟩ := b6.parts
      have hmore := sum_take_more wt hx
      have hsj1 := HSL.out (j + 1)
      obtain ⟨hst1, hst2⟩ := HTS.out j x hx
      have hY := HON.out x hxm (T j).2
      obtain ⟨Y, hYe⟩ : ∃ Y, valS how f x (T j).2 = Y := ⟨_, rfl⟩
      rw [hYe] at hst1 hst2 hY
      have HYe := Lib.hid hYe
      have HX := Lib.hid hx
      have HVX := Lib.hid hvx
      have HST2 := Lib.hid hst2
      have hyl : (⟨Y.1.toArray⟩ : ByteArray).size = Y.1.length := rfl
      have hBr : Below w0.heap.size w0 wr := grown_Below hB02 hr HG.out
      have hjm : (j : Int) < (il : Int) := by omega
      have HM1 := Lib.hid hmore
      have hne5 : some r ≠ some g := fun e => by have := Option.some.inj e; omega
      have HC : Hid (∀ W : World, Below w0.heap.size w0 W → W.cell? ⟨ib, io + j * 5, none⟩ = some (.int .u8 x.k) ∧ W.cell? ⟨ib, io + j * 5 + 1, none⟩ = some (.int .i64 x.n) ∧ W.cell? ⟨ib, io + j * 5 + 2, none⟩ = some (.string x.t) ∧ W.cell? ⟨ib, io + j * 5 + 3, none⟩ = some (.slice xan x.names.length xncap) ∧ W.cell? ⟨ib, io + j * 5 + 4, none⟩ = some (.slice xai x.items.length xicap)) := fun W hW => ⟨cell_keep hW c0, cell_keep hW c1, cell_keep hW c2, cell_keep hW c3, cell_keep hW c4⟩
      clear c0 c1 c2 c3 c4 b0 b1 b2 b3 b4' b5 b6 hx hvx hYe hmore
      by_cases hj0 : j = 0
      · have hjp : ¬ (0 : Int) < (j : Int) := by omega
        have HL5 := Lib.hid (show (91 :: (B2.1 ++ joinC (T j).1)) ++ Y.1 = 91 :: (B2.1 ++ joinC (T (j + 1)).1) by rw [hst1, if_pos hj0]; simp)
        generalize 91 :: (B2.1 ++ joinC (T j).1) = L5 at HO HL5
        obtain ⟨w5, rfl⟩ : ∃ x, x = wr := ⟨_, rfl⟩
        obtain ⟨g5, rfl⟩ : ∃ x, x = g := ⟨_, rfl⟩
        obtain ⟨cap5, rfl⟩ : ∃ x, x = cap := ⟨_, rfl⟩
        obtain ⟨m5, hm5⟩ : ∃ x, x = m := ⟨_, rfl⟩
        have hmm : m5 ≤ m + 1 := by omega
        rw [← hm5] at HO ⊢
        obtain ⟨e0, e1, e2, e3, e4⟩ := HC.out _ hBr
        have hB5 := hBr
        have hs5 := HSP.out
        have hG5 := HG.out
        have hO5 := HO.out
        clear hj0 hst1 hst2 hm5
        go_wp2_with fail
        have hcall := HIT.out x hxm _ w5 (T j).2 HVX.out hB5 hs5 (by have := HM1.out; omega)
        rw [HYe.out] at hcall
        have HG5 := Lib.hid hG5
        have HO5 := Lib.hid hO5
        have hlow5 := hO5.low
        have hsz5 := hG5.size
        clear hB5 hs5 hG5 hO5
        refine hcall.mono ?_
        rintro e w6 ⟨rfl, hg6, hs6⟩
        have hO6 := HO5.out.kept hg6 (fun e => by have := Option.some.inj e; omega)
        have hsz6 := hg6.size
        have HG6 := Lib.hid (HG5.out.trans hg6)
        have HS6 := Lib.hid hs6
        clear hg6 hs6 hcall e0 e1 e2 e3 e4
        go_wp2_with (at_builtin; refine wp_append_str_G _ rfl _ _ rfl i0 HI.out HZ0.out HZ1.out HZ2.out rfl hO6 ⟨Y.1.toArray⟩ rfl ?d3 ?d4 ?d5 ?_)
        case d3 => have := HM1.out; rw [hyl]; unfold maxLen; omega
        case d4 => have := HM1.out; rw [hyl]; omega
        case d5 => omega
        intro g7 cap7 w7 hO7 hgrow7
        have HG7 := Lib.hid (HG6.out.andThen hgrow7 (fun j hj => .inl (by have h5 : g5 = j := Option.some.inj hj; omega)))
        have HS7 : Hid (SpAt w7 r a how (T (j + 1)).2) := by show SpAt _ _ _ _ _; rw [HST2.out]; exact SpAt.far HS2.out HS6.out (by omega) hgrow7 (by omega)
        have HOW : Hid (OwnG w7 (w.heap.size + 1) g7 (m5 + Y.1.length) cap7 (91 :: (B2.1 ++ joinC (T (j + 1)).1))) := by show OwnG _ _ _ _ _ _; rw [← HL5.out]; simpa using hO7
        clear hO7 hgrow7 hO6
        go_wp2_with fail
        exact ⟨⟨j + 1, g7, _, cap7, by omega, by go_num, rfl, HOW, HG7, HS7⟩, by simp [intOf]; omega⟩
      · have hjp : (0 : Int) < (j : Int) := by omega
        have HL5 := Lib.hid (show ((91 :: (B2.1 ++ joinC (T j).1)) ++ [44]) ++ Y.1 = 91 :: (B2.1 ++ joinC (T (j + 1)).1) by rw [hst1, if_neg hj0]; simp)
        generalize 91 :: (B2.1 ++ joinC (T j).1) = L4 at HO HL5
        have hO4 := HO.out.kept (World.grownBy_alloc wr (.cells #[.int .u8 44] 5) none) (by simp)
        have HG4 := Lib.hid (grown_alloc HG.out (.cells #[.int .u8 44] 5))
        have HSP4 := Lib.hid (HSP.out.keep (bel_alloc (Below.refl wr.heap.size wr) (.cells #[.int .u8 44] 5)))
        clear hj0 hst1 hst2
        go_wp2_with (at_builtin; refine wp_append_one_G _ rfl _ _ rfl i0 HI.out HZ0.out HZ1.out HZ2.out rfl hO4 ⟨wr.heap.size, 0, none⟩ 1 44 rfl ?c3 ?c4 ?c5 ?c6 ?_)
        case c3 => rw [cell_al_eq _ _ _ _ _ rfl]; rfl
        case c4 => unfold maxLen; omega
        case c5 => omega
        case c6 => rw [size_al]; omega
        intro g5 cap5 w5 hO5 hgrow
        have hG5 := HG4.out.andThen hgrow (fun j hj => .inl (by have h5 : g = j := Option.some.inj hj; omega))
        have hB5 := grown_Below hB02 hr hG5
        have hs5 := SpAt.far HS2.out HSP4.out (by rw [size_al]; omega) hgrow (by omega)
        have e4r := (hG5.cell_far ⟨w.heap.size, 4, none⟩ (by show w.heap.size < _; omega) (fun e => by have h5 : w.heap.size = r := Option.some.inj e; omega)).trans a4
        obtain ⟨e0, e1, e2, e3, e4⟩ := HC.out _ hB5
        obtain ⟨m5, hm5⟩ : ∃ x, x = m + 1 := ⟨_, rfl⟩
        have hmm : m5 ≤ m + 1 := by omega
        rw [← hm5] at hO5 ⊢
        clear hgrow hO4 hm5
        go_wp2_with fail
        have hcall := HIT.out x hxm _ w5 (T j).2 HVX.out hB5 hs5 (by have := HM1.out; omega)
        rw [HYe.out] at hcall
        have HG5 := Lib.hid hG5
        have HO5 := Lib.hid hO5
        have hlow5 := hO5.low
        have hsz5 := hG5.size
        clear hB5 hs5 hG5 hO5
        refine hcall.mono ?_
        rintro e w6 ⟨rfl, hg6, hs6⟩
        have hO6 := HO5.out.kept hg6 (fun e => by have := Option.some.inj e; omega)
        have hsz6 := hg6.size
        have HG6 := Lib.hid (HG5.out.trans hg6)
        have HS6 := Lib.hid hs6
        clear hg6 hs6 hcall e0 e1 e2 e3 e4
        go_wp2_with (at_builtin; refine wp_append_str_G _ rfl _ _ rfl i0 HI.out HZ0.out HZ1.out HZ2.out rfl hO6 ⟨Y.1.toArray⟩ rfl ?d3 ?d4 ?d5 ?_)
        case d3 => have := HM1.out; rw [hyl]; unfold maxLen; omega
        case d4 => have := HM1.out; rw [hyl]; omega
        case d5 => omega
        intro g7 cap7 w7 hO7 hgrow7
        have HG7 := Lib.hid (HG6.out.andThen hgrow7 (fun j hj => .inl (by have h5 : g5 = j := Option.some.inj hj; omega)))
        have HS7 : Hid (SpAt w7 r a how (T (j + 1)).2) := by show SpAt _ _ _ _ _; rw [HST2.out]; exact SpAt.far HS2.out HS6.out (by omega) hgrow7 (by omega)
        have HOW : Hid (OwnG w7 (w.heap.size + 1) g7 (m5 + Y.1.length) cap7 (91 :: (B2.1 ++ joinC (T (j + 1)).1))) := by show OwnG _ _ _ _ _ _; rw [← HL5.out]; simpa using hO7
        clear hO7 hgrow7 hO6
        go_wp2_with fail
        exact ⟨⟨j + 1, g7, _, cap7, by omega, by go_num, rfl, HOW, HG7, HS7⟩, by simp [intOf]; omega⟩
    · have hjn : ¬ (j : Int) < (il : Int) := by omega
      obtain rfl : j = il := by omega
      have hcv := HO.out.conv
      have HN4 := Lib.hid (spBlank_any HSP.out (by omega))
      rw [HB4.out] at HN4
      generalize hL5 : 91 :: (B2.1 ++ joinC (T j).1) = L5 at HO hcv
      have hL5s : (⟨L5.toArray⟩ : ByteArray).size = m := HO.out.len.symm
      have HL5 := Lib.hid hL5
      clear hL5
      go_wp2_with fail
      refine HN4.out.mono ?_
      rintro e w5 ⟨rfl, hg5, hs5⟩
      have HG5 := Lib.hid (((grown_of hB2 (some r)).trans HG.out).trans hg5)
      have HS5 := Lib.hid hs5
      clear hg5 hs5 hcv
      go_wp2_with fail
      go_ret
      refine ⟨?_, HG5.out, HS5.out⟩
      refine congrArg (fun x => Ending.returned (Value.string x)) (bytes_ext ?_)
      rw [← HL5.out]
      simp [ByteArray.data_append]
end

section
open Go.RowKit

theorem wtL_len : ∀ l : List JV, l.length ≤ wtL l
  | [] => Nat.zero_le _
  | x :: r => by
    have := wtL_len r
    have := wt_eq x
    rw [wtL, List.length_cons]
    omega
set_option maxRecDepth 100000 in
set_option maxHeartbeats 16000000 in
theorem spValue_5 {w0 w : World} {r : Nat} {a : Option Addr} {how : List UInt8} {n : Nat} (V : JV) (v : Value) (hv : ValAt w0 V v) (hB : Below w0.heap.size w0 w) (hr : w0.heap.size ≤ r) (h : SpAt w r a how n) (hn : n + wt V ≤ 900000000) (f : Nat) (hk : Hid (V.k = 5)) (hnl : V.names.length = V.items.length) (hnm : Hid (∀ s ∈ V.names, writ s = true ∧ s.size ≤ 1000000)) (hin : Hid (inVs V.items)) (hit : ∀ x ∈ V.items, ValOK w0 r a how f x) :
    Calls Tryz.prog 11 #[.pointer (some ⟨r, 0, none⟩), v] w fun e w' => e = .returned (.string ⟨(valS how (f + 1) V n).1.toArray⟩) ∧ w.grownBy w' (some r) ∧ SpAt w' r a how (valS how (f + 1) V n).2 := by
  obtain ⟨i0, hi, hz0, hz1, hz2⟩ := info_parts infoUb
  have HI := Lib.hid hi
  have HZ0 := Lib.hid hz0
  have HZ1 := Lib.hid hz1
  have HZ2 := Lib.hid hz2
  clear hi hz0 hz1 hz2
  have hwt := wt_eq V
  have hws := zip_sum_le V.names V.items
  have hwl := wtL_len V.items
  obtain ⟨vn, vi, rfl, k0, k1, n0, n1, ht, hns, his⟩ := valAt_iff.1 hv
  obtain ⟨ai, icap, rfl, hI1, hI2⟩ := his.parts
  obtain ⟨an, ncap, rfl, -, -, hN3⟩ := hns.parts
  have HIC := Lib.hid hI2
  have HNC := Lib.hid hN3
  have HIT := Lib.hid hit
  clear hI2 hN3 hit
  have hzl : (V.names.zip V.items).length = V.items.length := by rw [List.length_zip, hnl, Nat.min_self]
  obtain ⟨il, hil⟩ : ∃ x, V.items.length = x := ⟨_, rfl⟩
  rw [hil] at hI1 hzl hnl hwl
  obtain ⟨w2, hw2⟩ : ∃ x, x = w.alloc (.cells #[.int .u8 V.k, .int .i64 V.n, .string V.t, .slice an V.names.length ncap, .slice ai V.items.length icap] 26) := ⟨_, rfl⟩
  rw [hil, hnl] at hw2 ⊢
  have hB2 : Below w.heap.size w w2 := by rw [hw2]; exact bel_alloc (Below.refl _ _) _
  have hB02 : Below w0.heap.size w0 w2 := by rw [hw2]; exact bel_alloc hB _
  have a0 : w2.cell? ⟨w.heap.size, 0, none⟩ = some (.int .u8 V.k) := by rw [hw2, cell_al_eq _ _ _ _ _ rfl]; rfl
  have a3 : w2.cell? ⟨w.heap.size, 3, none⟩ = some (.slice an il ncap) := by rw [hw2, cell_al_eq _ _ _ _ _ rfl]; rfl
  have a4 : w2.cell? ⟨w.heap.size, 4, none⟩ = some (.slice ai il icap) := by rw [hw2, cell_al_eq _ _ _ _ _ rfl]; rfl
  have hsz2 : w2.heap.size = w.heap.size + 1 := by rw [hw2, size_al]
  have HIL := Lib.hid hil
  have HNL := Lib.hid hnl
  have HZL := Lib.hid hzl
  have HW := Lib.hid hw2
  have hS2 := h.keep hB2
  have HS2 := Lib.hid hS2
  have hb := blankS_n how n
  have hlt : r < w.heap.size := by obtain ⟨l, c, hb, -⟩ := h.blk; exact hb.lt
  obtain ⟨B1, hB1⟩ : ∃ B, blankS how n = B := ⟨_, rfl⟩
  have HN1 := Lib.hid (spBlank_any hS2 (by omega))
  rw [hB1] at HN1 hb
  have q1 : (V.k == 1) = false := by rw [hk.out]; rfl
  have q2 : (V.k == 2) = false := by rw [hk.out]; rfl
  have q3 : (V.k == 3) = false := by rw [hk.out]; rfl
  have q4 : (V.k == 4) = false := by rw [hk.out]; rfl
  have q5 : (V.k == 5) = true := by rw [hk.out]; rfl
  obtain ⟨B2, hB2e⟩ : ∃ B, blankS how B1.2 = B := ⟨_, rfl⟩
  have hb2 := blankS_n how B1.2
  rw [hB2e] at hb2
  obtain ⟨F, hF⟩ : ∃ F, nextS how B2.2 = F := ⟨_, rfl⟩
  have hf1 := nextS_n how B2.2
  have hf2 := nextS_byte how B2.2
  rw [hF] at hf1 hf2
  obtain ⟨L, hL⟩ : ∃ L, rot F.1 (V.names.zip V.items) = L := ⟨_, rfl⟩
  have hperm := rot_perm F.1 (V.names.zip V.items)
  rw [hL] at hperm
  have hLl : L.length = il := by rw [← hL, rot_len]; exact hzl
  have hsumL : (L.map wtM).sum = ((V.names.zip V.items).map wtM).sum := (hperm.map _).sum_nat
  have hmemL : ∀ x ∈ L, x.1 ∈ V.names ∧ x.2 ∈ V.items := fun x hx => List.of_mem_zip (hperm.mem_iff.1 hx)
  have hLat : ∀ j, j < il → ∃ x, L[j]? = some x ∧ V.names[(F.1 + j) % il]? = some x.1 ∧ V.items[(F.1 + j) % il]? = some x.2 := fun j hj => by
    obtain ⟨x, hx⟩ : ∃ x, L[j]? = some x := ⟨_, List.getElem?_eq_getElem (by rw [hLl]; exact hj)⟩
    refine ⟨x, hx, ?_⟩
    rw [← hL, rot_at (by rw [hzl]; exact hj), hzl, List.getElem?_zip_eq_some] at hx
    exact hx
  have hone : ∀ x ∈ L, ∀ m, (memS how (valS how f) x m).2 ≤ m + wtM x ∧ (memS how (valS how f) x m).1.length + 1 ≤ 12 * wtM x := fun x hx m => memS_n how x (fun m => valS_n how f x.2 m (inVs_mem hin.out (hmemL x hx).2)) m
  obtain ⟨T, hT⟩ : ∃ T, (fun j => seqS (memS how (valS how f)) (L.take j) F.2) = T := ⟨_, rfl⟩
  have hTb : ∀ j, (T j).2 ≤ F.2 + ((L.take j).map wtM).sum ∧ (joinC (T j).1).length ≤ 12 * ((L.take j).map wtM).sum := fun j => by
    rw [← hT]
    exact seqS_bound _ _ fun x hx => hone x (List.mem_of_mem_take hx)
  have hTs : ∀ j x, L[j]? = some x → joinC (T (j + 1)).1 = joinC (T j).1 ++ ((if j = 0 then [] else [44]) ++ (memS how (valS how f) x (T j).2).1) ∧ (T (j + 1)).2 = (memS how (valS how f) x (T j).2).2 := fun j x hx => by
    rw [← hT]
    exact joinS_step (memS how (valS how f)) hx F.2
  have hT0 : T 0 = ([], F.2) := by rw [← hT]; rfl
  have hTl : T il = seqS (memS how (valS how f)) L F.2 := by
    rw [← hT]
    show seqS (memS how (valS how f)) (L.take il) F.2 = _
    rw [← hLl, List.take_length]
  obtain ⟨B4, hB4⟩ : ∃ B, blankS how (T il).2 = B := ⟨_, rfl⟩
  have hval : valS how (f + 1) V n = (B1.1 ++ ((123 :: (B2.1 ++ (joinC (T il).1 ++ [125]))) ++ B4.1), B4.2) := by
    rw [valS, hB1, bodyS, if_neg (by rw [hk.out]; decide), if_neg (by rw [hk.out]; decide), if_neg (by rw [hk.out]; decide), if_neg (by rw [hk.out]; decide), if_pos hk.out, hB2e, hF, hL, ← hTl]
    simp only []
    rw [hB4]
  have hb4 := blankS_n how (T il).2
  rw [hB4] at hb4
  rw [hval]
  have HB2 := Lib.hid hB2e
  have HB4 := Lib.hid hB4
  have HTB := Lib.hid hTb
  have HTS := Lib.hid hTs
  have HT0 := Lib.hid hT0
  have HON := Lib.hid hone
  have hsl := sum_take_le wtM L
  have HSL := Lib.hid hsl
  have HLA := Lib.hid hLat
  have HML := Lib.hid hmemL
  have HF := Lib.hid hF
  have HSM := Lib.hid (show (L.map wtM).sum ≤ wtN V.names + wtL V.items by omega)
  have hTi := hTb il
  have hTii := hsl il
  have hl1 : (⟨B1.1.toArray⟩ : ByteArray).size = B1.1.length := rfl
  have hl2 : (⟨B2.1.toArray⟩ : ByteArray).size = B2.1.length := rfl
  have hl4 : (⟨B4.1.toArray⟩ : ByteArray).size = B4.1.length := rfl
  have kc := fun (w : World) (s : ByteArray) => run_bytes_of_string (P := Tryz.prog) w 9 32 5 s Tryz.underlying9 Tryz.underlying32 Tryz.underlying5
  clear hval hB2e hB1 hB4 hT hTb hTs hT0 hTl hone hsl hLat hmemL hF hL hperm hLl
  clear hw2 h hns his hv hS2 hil hnl hzl
  go_enter Tryz.func11, Tryz.ntmps11
  go_wp2_with fail
  rw [← HW.out]
  refine HN1.out.mono ?_
  rintro e w3 ⟨rfl, hg3, hs3⟩
  have d0 := (hg3.cell_far ⟨w.heap.size, 0, none⟩ (by show w.heap.size < _; omega) (fun e => by have h5 : w.heap.size = r := Option.some.inj e; omega)).trans a0
  have hsz3 := hg3.size
  have HG3 := Lib.hid hg3
  have HN2 := Lib.hid (spBlank_any hs3 (by omega))
  rw [HB2.out] at HN2
  clear hg3 hs3
  go_wp2_with fail
  refine HN2.out.mono ?_
  rintro e w4 ⟨rfl, hg4, hs4⟩
  have hsz4 := hg4.size
  have HG4 := Lib.hid (HG3.out.trans hg4)
  have HS4 := Lib.hid hs4
  clear hg4 hs4 d0
  go_wp2_with fail
  generalize hS : (⟨#[123]⟩ ++ ⟨B2.1.toArray⟩ : ByteArray) = S5
  have hSl : S5.data.toList = 123 :: B2.1 := by rw [← hS]; simp [ByteArray.data_append]
  have hSz : S5.size = 1 + B2.1.length := by rw [← size_len, hSl, List.length_cons]; omega
  have hcapge := grownCap_ge w4 (1 + B2.1.length) 0 5
  have hcaple := grownCap_le_maxLen w4 (1 + B2.1.length) 0 5 (by unfold maxLen; omega)
  generalize grownCap w4 (1 + B2.1.length) 0 5 = C5 at hcapge hcaple ⊢
  have hO5 := ownG_of w4 S5 C5 (by omega) hcaple rfl w4 rfl
  rw [hSl, hSz] at hO5
  have HO5 := Lib.hid (show OwnG (w4.alloc (.cells (bytesRow S5 C5) 5 ((bytesRow S5 C5).size, (bytesRow S5 C5).size + 1))).drew (w.heap.size + 1) w4.heap.size (1 + B2.1.length) C5 (123 :: (B2.1 ++ [])) from by rw [List.append_nil]; exact ⟨hO5.len, by omega, hO5.blk⟩)
  have hbw : Below w4.heap.size w4 (w4.alloc (.cells (bytesRow S5 C5) 5 ((bytesRow S5 C5).size, (bytesRow S5 C5).size + 1))).drew := bel_drew (bel_alloc (Below.refl w4.heap.size w4) _)
  have HG5 := Lib.hid (HG4.out.trans (grown_of hbw (some r)))
  have HS5 := Lib.hid (HS4.out.keep hbw)
  generalize (w4.alloc (.cells (bytesRow S5 C5) 5 ((bytesRow S5 C5).size, (bytesRow S5 C5).size + 1))).drew = w5 at HO5 HG5 HS5 ⊢
  generalize w4.heap.size = b5 at HO5 ⊢
  clear hO5 hbw hcaple hcapge hSl hS hSz
  have HNX := Lib.hid (spNext_any HS5.out (by omega))
  rw [HF.out] at HNX
  have hsz5 := HG5.out.size
  refine HNX.out.mono ?_
  rintro e w6 ⟨rfl, hg6, hs6⟩
  have HO6 : Hid (OwnG w6 (w.heap.size + 1) b5 (1 + B2.1.length) C5 (123 :: (B2.1 ++ joinC (T 0).1))) := by
    show OwnG _ _ _ _ _ _
    rw [HT0.out]
    have hl := HO5.out.low
    exact HO5.out.kept hg6 (fun e => by have := Option.some.inj e; omega)
  have HS6 : Hid (SpAt w6 r a how (T 0).2) := by show SpAt _ _ _ _ _; rw [HT0.out]; exact hs6
  have HG6 := Lib.hid (HG5.out.trans hg6)
  clear HO5 HS5 HG5 hg6 hs6
  go_wp2_with fail
  go_loopw [8, 10] (fun v i wr => ∃ (j g m cap : Nat), j ≤ il ∧ i = .int .i64 j ∧ v = .slice (some ⟨g, 0, none⟩) m cap ∧ Hid (OwnG wr (w.heap.size + 1) g m cap (123 :: (B2.1 ++ joinC (T j).1))) ∧ Hid (w2.grownBy wr (some r)) ∧ Hid (SpAt wr r a how (T j).2)) (fun _ i _ => il - (intOf i).toNat)
  case atStart => exact ⟨0, b5, _, C5, by omega, rfl, rfl, HO6, HG6, HS6⟩
  case round =>
    obtain ⟨j, g, m, cap, hj, rfl, rfl, HO, HG, HSP⟩ := hrel
    clear HO6 HG6 HS6
    have hszr := HG.out.size
    have hgl := HO.out.lt
    have hgb := HO.out.low
    have hm : m ≤ 1 + B2.1.length + (joinC (T j).1).length := by rw [HO.out.len]; simp only [List.length_cons, List.length_append]; omega
    have e4r := (HG.out.cell_far ⟨w.heap.size, 4, none⟩ (by show w.heap.size < _; omega) (fun e => by have h5 : w.heap.size = r := Option.some.inj e; omega)).trans a4
    have htj := HTB.out j
    have hsj := HSL.out j
    by_cases hjl : j < il
    · obtain ⟨x, hx, hxn, hxi⟩ := HLA.out j hjl
      have hxL := List.mem_of_getElem? hx
      obtain ⟨hxnm, hxm⟩ := HML.out x hxL
      obtain ⟨hxw, hxs⟩ := hnm.out x.1 hxnm
      have HXW := Lib.hid hxw
      obtain ⟨K, hK⟩ : ∃ K, (F.1 + j) % il = K := ⟨_, rfl⟩
      rw [hK] at hxn hxi
      have hKl : K < il := by rw [← hK]; exact Nat.mod_lt _ (by omega)
      have hmod : ((F.1 : Int) + (j : Int)).tmod (il : Int) = (K : Int) := by
        rw [← hK, show (F.1 : Int) + (j : Int) = ((F.1 + j : Nat) : Int) by omega, Int.tmod_eq_emod_of_nonneg (by omega)]
        exact (Int.natCast_emod _ _).symm
      have hK0 : (0 : Int) ≤ (K : Int) := by omega
      have hK1 : (K : Int) < (il : Int) := by omega
      have hlz : ((il : Int) == 0) = false := beq_eq_false_iff_ne.2 (by omega)
      have hlz2 : ¬ (il : Int) = 0 := by omega
      obtain ⟨nb, no, rfl, cn⟩ := HNC.out K x.1 hxn
      obtain ⟨ib, io, xn, xi, rfl, c0, c1, c2, c3, c4, b0, b1, b2, b3, b4', b5', b6⟩ := HIC.out K x.2 hxi
      have hvx : ValAt w0 x.2 (.agg #[.int .u8 x.2.k, .int .i64 x.2.n, .string x.2.t, xn, xi]) := valAt_iff.2 ⟨_, _, rfl, b0, b1, b2, b3, b4', b5', b6⟩
      obtain ⟨xan, xncap, rfl, -, -, -⟩ := b5'.parts
      obtain ⟨xai, xicap, rfl, -, -⟩ := b6.parts
      have hmore := sum_take_more wtM hx
      have hsj1 := HSL.out (j + 1)
      have hsum := HSM.out
      have hwx : wtM x = 2 + x.1.size + wt x.2 := rfl
      obtain ⟨hst1, hst2⟩ := HTS.out j x hx
      have hY := HON.out x hxL (T j).2
      obtain ⟨A1, hA1⟩ : ∃ B, blankS how (T j).2 = B := ⟨_, rfl⟩
      obtain ⟨Q, hQ⟩ : ∃ B, quoteS how x.1 A1.2 = B := ⟨_, rfl⟩
      obtain ⟨A2, hA2⟩ : ∃ B, blankS how Q.2 = B := ⟨_, rfl⟩
      obtain ⟨Y, hYe⟩ : ∃ Y, valS how f x.2 A2.2 = Y := ⟨_, rfl⟩
      have hmem : memS how (valS how f) x (T j).2 = (A1.1 ++ (Q.1 ++ (A2.1 ++ 58 :: Y.1)), Y.2) := by unfold memS; rw [hA1, hQ, hA2, hYe]
      rw [hmem] at hst1 hst2 hY
      have hYl := hY.2
      simp only [List.length_append, List.length_cons] at hYl
      have hb1' := blankS_n how (T j).2
      have hq' := quoteS_n how x.1 A1.2
      have hb2' := blankS_n how Q.2
      rw [hA1] at hb1'
      rw [hQ] at hq'
      rw [hA2] at hb2'
      have HA1 := Lib.hid hA1
      have HQ := Lib.hid hQ
      have HA2 := Lib.hid hA2
      have HYe := Lib.hid hYe
      have HVX := Lib.hid hvx
      have HST2 := Lib.hid (show (T (j + 1)).2 = Y.2 from hst2)
      obtain ⟨S6, hS6⟩ : ∃ S : ByteArray, (⟨A1.1.toArray⟩ ++ ⟨Q.1.toArray⟩ ++ ⟨A2.1.toArray⟩ ++ ⟨#[58]⟩ : ByteArray) = S := ⟨_, rfl⟩
      have hS6l : S6.data.toList = A1.1 ++ (Q.1 ++ (A2.1 ++ [58])) := by rw [← hS6]; simp [ByteArray.data_append]
      have hS6z : S6.size = A1.1.length + (Q.1.length + (A2.1.length + 1)) := by rw [← size_len, hS6l]; simp only [List.length_append, List.length_singleton]
      have HS6 := Lib.hid hS6
      have HS6l := Lib.hid hS6l
      have hal1 : (⟨A1.1.toArray⟩ : ByteArray).size = A1.1.length := rfl
      have hal2 : (⟨A2.1.toArray⟩ : ByteArray).size = A2.1.length := rfl
      have hql : (⟨Q.1.toArray⟩ : ByteArray).size = Q.1.length := rfl
      have hyl : (⟨Y.1.toArray⟩ : ByteArray).size = Y.1.length := rfl
      have hBr : Below w0.heap.size w0 wr := grown_Below hB02 hr HG.out
      have hjm : (j : Int) < (il : Int) := by omega
      have HM1 := Lib.hid hmore
      have HC : Hid (∀ W : World, Below w0.heap.size w0 W → W.cell? ⟨ib, io + K * 5, none⟩ = some (.int .u8 x.2.k) ∧ W.cell? ⟨ib, io + K * 5 + 1, none⟩ = some (.int .i64 x.2.n) ∧ W.cell? ⟨ib, io + K * 5 + 2, none⟩ = some (.string x.2.t) ∧ W.cell? ⟨ib, io + K * 5 + 3, none⟩ = some (.slice xan x.2.names.length xncap) ∧ W.cell? ⟨ib, io + K * 5 + 4, none⟩ = some (.slice xai x.2.items.length xicap)) := fun W hW => ⟨cell_keep hW c0, cell_keep hW c1, cell_keep hW c2, cell_keep hW c3, cell_keep hW c4⟩
      clear c0 c1 c2 c3 c4 b0 b1 b2 b3 b4' b5' b6 hx hvx hYe hmore hS6 hS6l hA1 hQ hA2 hmem hxw hst2 hK hxn hxi
      by_cases hj0 : j = 0
      · have hjp : ¬ (0 : Int) < (j : Int) := by omega
        have HL5 := Lib.hid (show (123 :: (B2.1 ++ joinC (T j).1)) ++ (A1.1 ++ (Q.1 ++ (A2.1 ++ [58]))) ++ Y.1 = 123 :: (B2.1 ++ joinC (T (j + 1)).1) by rw [hst1, if_pos hj0]; simp)
        generalize 123 :: (B2.1 ++ joinC (T j).1) = L5 at HO HL5
        obtain ⟨w5, rfl⟩ : ∃ x, x = wr := ⟨_, rfl⟩
        obtain ⟨g5, rfl⟩ : ∃ x, x = g := ⟨_, rfl⟩
        obtain ⟨cap5, rfl⟩ : ∃ x, x = cap := ⟨_, rfl⟩
        obtain ⟨m5, hm5⟩ : ∃ x, x = m := ⟨_, rfl⟩
        have hmm : m5 ≤ m + 1 := by omega
        rw [← hm5] at HO ⊢
        have hB5 := hBr
        have hs5 := HSP.out
        have hG5 := HG.out
        have hO5 := HO.out
        have e3r := (HG.out.cell_far ⟨w.heap.size, 3, none⟩ (by show w.heap.size < _; omega) (fun e => by have h5 : w.heap.size = r := Option.some.inj e; omega)).trans a3
        clear hj0 hst1 hm5
        have HG5 := Lib.hid hG5
        have HO5 := Lib.hid hO5
        have hlow5 := hO5.low
        have hsz5 := hG5.size
        have HNA := Lib.hid (spBlank_any hs5 (by have := HM1.out; omega))
        rw [HA1.out] at HNA
        have C3 := e3r
        have C4 := e4r
        clear hs5 hG5 hO5 hB5
        go_wp2_with fail
        refine HNA.out.mono ?_
        rintro e w6 ⟨rfl, hg6, hs6⟩
        have HG6 := Lib.hid (HG5.out.trans hg6)
        have HO6 := Lib.hid (HO5.out.kept hg6 (fun e => by have := Option.some.inj e; omega))
        have hB6 := grown_Below hB02 hr HG6.out
        have e3 := (HG6.out.cell_far ⟨w.heap.size, 3, none⟩ (by show w.heap.size < _; omega) (fun e => by have h5 : w.heap.size = r := Option.some.inj e; omega)).trans a3
        have n0 := cell_keep hB6 cn
        have HNT := Lib.hid (spText_any hs6 x.1 hxs (by have := HM1.out; omega) HXW.out)
        rw [HQ.out] at HNT
        have hsz6 := hg6.size
        clear hg6 hs6 HNA hB6 C3 C4
        go_wp2_with fail
        refine HNT.out.mono ?_
        rintro e w7 ⟨rfl, hg7, hs7⟩
        have HG7 := Lib.hid (HG6.out.trans hg7)
        have HO7 := Lib.hid (HO6.out.kept hg7 (fun e => by have := Option.some.inj e; omega))
        have HNB := Lib.hid (spBlank_any hs7 (by have := HM1.out; omega))
        rw [HA2.out] at HNB
        have hsz7 := hg7.size
        clear hg7 hs7 HNT e3 n0 HG6 HO6
        go_wp2_with fail
        refine HNB.out.mono ?_
        rintro e w8 ⟨rfl, hg8, hs8⟩
        have HG8 := Lib.hid (HG7.out.trans hg8)
        have hO8 := HO7.out.kept hg8 (fun e => by have := Option.some.inj e; omega)
        have HS8 := Lib.hid hs8
        have hsz8 := hg8.size
        clear hg8 hs8 HNB HG7 HO7
        go_wp2_with (at_builtin; refine wp_append_str_G _ rfl _ _ rfl i0 HI.out HZ0.out HZ1.out HZ2.out rfl hO8 _ rfl ?d3 ?d4 ?d5 ?_)
        case d3 => have := HM1.out; rw [HS6.out, hS6z]; unfold maxLen; omega
        case d4 => have := HM1.out; rw [HS6.out, hS6z]; omega
        case d5 => omega
        intro g9 cap9 w9 hO9 hgrow9
        have hG9 := HG8.out.andThen hgrow9 (fun j hj => .inl (by have h5 : g5 = j := Option.some.inj hj; omega))
        have hB9 := grown_Below hB02 hr hG9
        have hs9 := SpAt.far HS2.out HS8.out (by omega) hgrow9 (by omega)
        have e4 := (hG9.cell_far ⟨w.heap.size, 4, none⟩ (by show w.heap.size < _; omega) (fun e => by have h5 : w.heap.size = r := Option.some.inj e; omega)).trans a4
        obtain ⟨f0, f1, f2, f3, f4⟩ := HC.out _ hB9
        have hcall := HIT.out x.2 hxm _ w9 A2.2 HVX.out hB9 hs9 (by have := HM1.out; omega)
        rw [HYe.out] at hcall
        have HG9 := Lib.hid hG9
        have HO9 : Hid (OwnG w9 (w.heap.size + 1) g9 (m5 + (A1.1.length + Q.1.length + A2.1.length + 1)) cap9 (L5 ++ (A1.1 ++ (Q.1 ++ (A2.1 ++ [58]))))) := hO9
        have hlow9 := hO9.low
        have hsz9 := hG9.size
        clear hO9 hgrow9 hO8 HG8 HS8 hs9 hG9 hB9
        go_wp2_with fail
        refine hcall.mono ?_
        rintro e w10 ⟨rfl, hg10, hs10⟩
        have hO10 := HO9.out.kept hg10 (fun e => by have := Option.some.inj e; omega)
        have hsz10 := hg10.size
        have HG10 := Lib.hid (HG9.out.trans hg10)
        have HS10 := Lib.hid hs10
        clear hg10 hs10 hcall f0 f1 f2 f3 f4 e4
        go_wp2_with (at_builtin; refine wp_append_str_G _ rfl _ _ rfl i0 HI.out HZ0.out HZ1.out HZ2.out rfl hO10 ⟨Y.1.toArray⟩ rfl ?f3 ?f4 ?f5 ?_)
        case f3 => have := HM1.out; rw [hyl]; unfold maxLen; omega
        case f4 => have := HM1.out; rw [hyl]; omega
        case f5 => omega
        intro g11 cap11 w11 hO11 hgrow11
        have HG11 := Lib.hid (HG10.out.andThen hgrow11 (fun j hj => .inl (by have h5 : g9 = j := Option.some.inj hj; omega)))
        have HS11 : Hid (SpAt w11 r a how (T (j + 1)).2) := by show SpAt _ _ _ _ _; rw [HST2.out]; exact SpAt.far HS2.out HS10.out (by omega) hgrow11 (by omega)
        have HOW : Hid (OwnG w11 (w.heap.size + 1) g11 (m5 + (A1.1.length + Q.1.length + A2.1.length + 1) + Y.1.length) cap11 (123 :: (B2.1 ++ joinC (T (j + 1)).1))) := by show OwnG _ _ _ _ _ _; rw [← HL5.out]; simpa using hO11
        clear hO11 hgrow11 hO10
        go_wp2_with fail
        exact ⟨⟨j + 1, g11, _, cap11, by omega, by go_num, rfl, HOW, HG11, HS11⟩, by simp [intOf]; omega⟩
      · have hjp : (0 : Int) < (j : Int) := by omega
        have HL5 := Lib.hid (show ((123 :: (B2.1 ++ joinC (T j).1)) ++ [44]) ++ (A1.1 ++ (Q.1 ++ (A2.1 ++ [58]))) ++ Y.1 = 123 :: (B2.1 ++ joinC (T (j + 1)).1) by rw [hst1, if_neg hj0]; simp)
        generalize 123 :: (B2.1 ++ joinC (T j).1) = L4 at HO HL5
        have hO4 := HO.out.kept (World.grownBy_alloc wr (.cells #[.int .u8 44] 5) none) (by simp)
        have HG4 := Lib.hid (grown_alloc HG.out (.cells #[.int .u8 44] 5))
        have HSP4 := Lib.hid (HSP.out.keep (bel_alloc (Below.refl wr.heap.size wr) (.cells #[.int .u8 44] 5)))
        clear hj0 hst1
        go_wp2_with (at_builtin; refine wp_append_one_G _ rfl _ _ rfl i0 HI.out HZ0.out HZ1.out HZ2.out rfl hO4 ⟨wr.heap.size, 0, none⟩ 1 44 rfl (by rw [cell_al_eq _ _ _ _ _ rfl]; rfl) ?c4 ?c5 ?c6 ?_)
        case c4 => have := HM1.out; unfold maxLen; omega
        case c5 => have := HM1.out; omega
        case c6 => first | omega | (rw [size_al]; omega)
        intro g5 cap5 w5 hO5 hgrow
        have hG5 := HG4.out.andThen hgrow (fun j hj => .inl (by have h5 : g = j := Option.some.inj hj; omega))
        have hB5 := grown_Below hB02 hr hG5
        have hs5 := SpAt.far HS2.out HSP4.out (by rw [size_al]; omega) hgrow (by omega)
        have e4r := (hG5.cell_far ⟨w.heap.size, 4, none⟩ (by show w.heap.size < _; omega) (fun e => by have h5 : w.heap.size = r := Option.some.inj e; omega)).trans a4
        have e3r := (hG5.cell_far ⟨w.heap.size, 3, none⟩ (by show w.heap.size < _; omega) (fun e => by have h5 : w.heap.size = r := Option.some.inj e; omega)).trans a3
        obtain ⟨m5, hm5⟩ : ∃ x, x = m + 1 := ⟨_, rfl⟩
        have hmm : m5 ≤ m + 1 := by omega
        rw [← hm5] at hO5 ⊢
        generalize L4 ++ [44] = L5 at hO5 HL5
        clear hgrow hO4 hm5
        have HG5 := Lib.hid hG5
        have HO5 := Lib.hid hO5
        have hlow5 := hO5.low
        have hsz5 := hG5.size
        have HNA := Lib.hid (spBlank_any hs5 (by have := HM1.out; omega))
        rw [HA1.out] at HNA
        have C3 := e3r
        have C4 := e4r
        clear hs5 hG5 hO5 hB5
        go_wp2_with fail
        refine HNA.out.mono ?_
        rintro e w6 ⟨rfl, hg6, hs6⟩
        have HG6 := Lib.hid (HG5.out.trans hg6)
        have HO6 := Lib.hid (HO5.out.kept hg6 (fun e => by have := Option.some.inj e; omega))
        have hB6 := grown_Below hB02 hr HG6.out
        have e3 := (HG6.out.cell_far ⟨w.heap.size, 3, none⟩ (by show w.heap.size < _; omega) (fun e => by have h5 : w.heap.size = r := Option.some.inj e; omega)).trans a3
        have n0 := cell_keep hB6 cn
        have HNT := Lib.hid (spText_any hs6 x.1 hxs (by have := HM1.out; omega) HXW.out)
        rw [HQ.out] at HNT
        have hsz6 := hg6.size
        clear hg6 hs6 HNA hB6 C3 C4
        go_wp2_with fail
        refine HNT.out.mono ?_
        rintro e w7 ⟨rfl, hg7, hs7⟩
        have HG7 := Lib.hid (HG6.out.trans hg7)
        have HO7 := Lib.hid (HO6.out.kept hg7 (fun e => by have := Option.some.inj e; omega))
        have HNB := Lib.hid (spBlank_any hs7 (by have := HM1.out; omega))
        rw [HA2.out] at HNB
        have hsz7 := hg7.size
        clear hg7 hs7 HNT e3 n0 HG6 HO6
        go_wp2_with fail
        refine HNB.out.mono ?_
        rintro e w8 ⟨rfl, hg8, hs8⟩
        have HG8 := Lib.hid (HG7.out.trans hg8)
        have hO8 := HO7.out.kept hg8 (fun e => by have := Option.some.inj e; omega)
        have HS8 := Lib.hid hs8
        have hsz8 := hg8.size
        clear hg8 hs8 HNB HG7 HO7
        go_wp2_with (at_builtin; refine wp_append_str_G _ rfl _ _ rfl i0 HI.out HZ0.out HZ1.out HZ2.out rfl hO8 _ rfl ?d3 ?d4 ?d5 ?_)
        case d3 => have := HM1.out; rw [HS6.out, hS6z]; unfold maxLen; omega
        case d4 => have := HM1.out; rw [HS6.out, hS6z]; omega
        case d5 => omega
        intro g9 cap9 w9 hO9 hgrow9
        have hG9 := HG8.out.andThen hgrow9 (fun j hj => .inl (by have h5 : g5 = j := Option.some.inj hj; omega))
        have hB9 := grown_Below hB02 hr hG9
        have hs9 := SpAt.far HS2.out HS8.out (by omega) hgrow9 (by omega)
        have e4 := (hG9.cell_far ⟨w.heap.size, 4, none⟩ (by show w.heap.size < _; omega) (fun e => by have h5 : w.heap.size = r := Option.some.inj e; omega)).trans a4
        obtain ⟨f0, f1, f2, f3, f4⟩ := HC.out _ hB9
        have hcall := HIT.out x.2 hxm _ w9 A2.2 HVX.out hB9 hs9 (by have := HM1.out; omega)
        rw [HYe.out] at hcall
        have HG9 := Lib.hid hG9
        have HO9 : Hid (OwnG w9 (w.heap.size + 1) g9 (m5 + (A1.1.length + Q.1.length + A2.1.length + 1)) cap9 (L5 ++ (A1.1 ++ (Q.1 ++ (A2.1 ++ [58]))))) := hO9
        have hlow9 := hO9.low
        have hsz9 := hG9.size
        clear hO9 hgrow9 hO8 HG8 HS8 hs9 hG9 hB9
        go_wp2_with fail
        refine hcall.mono ?_
        rintro e w10 ⟨rfl, hg10, hs10⟩
        have hO10 := HO9.out.kept hg10 (fun e => by have := Option.some.inj e; omega)
        have hsz10 := hg10.size
        have HG10 := Lib.hid (HG9.out.trans hg10)
        have HS10 := Lib.hid hs10
        clear hg10 hs10 hcall f0 f1 f2 f3 f4 e4
        go_wp2_with (at_builtin; refine wp_append_str_G _ rfl _ _ rfl i0 HI.out HZ0.out HZ1.out HZ2.out rfl hO10 ⟨Y.1.toArray⟩ rfl ?f3 ?f4 ?f5 ?_)
        case f3 => have := HM1.out; rw [hyl]; unfold maxLen; omega
        case f4 => have := HM1.out; rw [hyl]; omega
        case f5 => omega
        intro g11 cap11 w11 hO11 hgrow11
        have HG11 := Lib.hid (HG10.out.andThen hgrow11 (fun j hj => .inl (by have h5 : g9 = j := Option.some.inj hj; omega)))
        have HS11 : Hid (SpAt w11 r a how (T (j + 1)).2) := by show SpAt _ _ _ _ _; rw [HST2.out]; exact SpAt.far HS2.out HS10.out (by omega) hgrow11 (by omega)
        have HOW : Hid (OwnG w11 (w.heap.size + 1) g11 (m5 + (A1.1.length + Q.1.length + A2.1.length + 1) + Y.1.length) cap11 (123 :: (B2.1 ++ joinC (T (j + 1)).1))) := by show OwnG _ _ _ _ _ _; rw [← HL5.out]; simpa using hO11
        clear hO11 hgrow11 hO10
        go_wp2_with fail
        exact ⟨⟨j + 1, g11, _, cap11, by omega, by go_num, rfl, HOW, HG11, HS11⟩, by simp [intOf]; omega⟩
    · have hjn : ¬ (j : Int) < (il : Int) := by omega
      obtain rfl : j = il := by omega
      have hcv := HO.out.conv
      have HN4 := Lib.hid (spBlank_any HSP.out (by omega))
      rw [HB4.out] at HN4
      generalize hL5 : 123 :: (B2.1 ++ joinC (T j).1) = L5 at HO hcv
      have hL5s : (⟨L5.toArray⟩ : ByteArray).size = m := HO.out.len.symm
      have HL5 := Lib.hid hL5
      clear hL5
      go_wp2_with fail
      refine HN4.out.mono ?_
      rintro e w5 ⟨rfl, hg5, hs5⟩
      have HG5 := Lib.hid (((grown_of hB2 (some r)).trans HG.out).trans hg5)
      have HS5 := Lib.hid hs5
      clear hg5 hs5 hcv
      go_wp2_with fail
      go_ret
      refine ⟨?_, HG5.out, HS5.out⟩
      refine congrArg (fun x => Ending.returned (Value.string x)) (bytes_ext ?_)
      rw [← HL5.out]
      simp [ByteArray.data_append]
end
end Go.Proofs.YtfdecbfcddkoiaaGreatDoor
