/-
  value.May: whether a value may be.
-/
import Derived.Test.YtjekdhahbkofbaaDoorValSize
import Derived.Test.YtjekdhahbkofbaaDoorUtf
import Derived.Deep.QuietTactic
import Derived.BigQuiet
import Derived.IntWalk
import Derived.Deep.Light
namespace Go.Proofs.YtjekdhahbkofbaaDoor
open Go.RowKit

/-- May a string stand in a value? -/
def writ (s : ByteArray) : Bool := decide (s.size ≤ 4096) && utfOK s
theorem written_any (s : ByteArray) (w : World) (hs : s.size ≤ maxLen) :
    Calls Tryd.prog 60 #[.string s] w fun e w' => e = .returned (.bool (writ s)) ∧ Below w.heap.size w w' := by
  by_cases h : s.size ≤ 4096
  · have hw : writ s = utfOK s := by simp [writ, h]
    have HW := Lib.hid hw
    clear hw
    go_enter Tryd.func60, Tryd.ntmps60
    go_wp2_with fail
    refine (utfValid_any s _ hs).mono ?_
    rintro e w' ⟨rfl, hb⟩
    go_wp2_with fail
    go_ret
    exact ⟨ret_bool HW.out.symm, hb⟩
  · have hw : writ s = false := by simp [writ, h]
    have HW := Lib.hid hw
    clear hw
    go_enter Tryd.func60, Tryd.ntmps60
    go_wp2_with fail
    go_ret
    exact ⟨ret_bool HW.out.symm, Below.refl _ _⟩

/-- Two names one behind the other: does the second one come later? -/
def lessAt (l : List ByteArray) (i : Nat) : Bool := Op.bytesLess (l.getD i ByteArray.empty).toList (l.getD (i + 1) ByteArray.empty).toList
def ascB (l : List ByteArray) : Bool := (List.range (l.length - 1)).all (lessAt l)
def ascTo (l : List ByteArray) (k : Nat) : Bool := (List.range (k - 1)).all (lessAt l)

set_option maxRecDepth 100000 in
set_option maxHeartbeats 1000000 in
theorem ascending_any (l : List ByteArray) (v : Value) (w : World) (h : StrsAt w v l) :
    Calls Tryd.prog 61 #[v] w fun e w' => e = .returned (.bool (ascB l)) ∧ Below w.heap.size w w' := by
  obtain ⟨a, cap, rfl, hl, hm, hc⟩ := h.parts
  have HC := Lib.hid hc
  clear hc h hm
  obtain ⟨len, hlen⟩ : ∃ n, l.length = n := ⟨_, rfl⟩
  rw [hlen] at hl ⊢
  have HL := Lib.hid hlen
  clear hlen
  go_enter Tryd.func61, Tryd.ntmps61
  go_wp2_with fail
  go_loopw [3] (fun i wr => ∃ k : Nat, 1 ≤ k ∧ (k ≤ len ∨ k = 1) ∧ i = .int .i64 k ∧ Hid (ascTo l k = true) ∧ ∃ nq, wr = w.drewN nq) (fun i _ => len - (intOf i).toNat)
  case atStart => exact ⟨1, by omega, Or.inr rfl, rfl, rfl, 0, rfl⟩
  case round =>
    obtain ⟨k, hk1, hk, rfl, HA, nq, rfl⟩ := hrel
    obtain ⟨j, rfl⟩ : ∃ j, k = j + 1 := ⟨k - 1, by omega⟩
    by_cases hlt : j + 1 < len
    · obtain ⟨s, hs⟩ : ∃ s, l[j + 1]? = some s := ⟨_, List.getElem?_eq_getElem (by rw [HL.out]; exact hlt)⟩
      obtain ⟨p, hp⟩ : ∃ s, l[j]? = some s := ⟨_, List.getElem?_eq_getElem (by rw [HL.out]; omega)⟩
      obtain ⟨b, o, rfl, hcs⟩ := HC.out (j + 1) s hs
      obtain ⟨b', o', hbo, hcp⟩ := HC.out j p hp
      simp only [Option.some.injEq, Addr.mk.injEq, and_true] at hbo
      obtain ⟨rfl, rfl⟩ := hbo
      have hless : lessAt l j = Op.bytesLess p.toList s.toList := by simp [lessAt, List.getD, hs, hp]
      have hto : ascTo l (j + 1 + 1) = (ascTo l (j + 1) && lessAt l j) := by
        simp only [ascTo, Nat.add_sub_cancel, List.range_succ, List.all_append, List.all_cons, List.all_nil, Bool.and_true]
      have HLs := Lib.hid hless
      have HTo := Lib.hid hto
      clear hs hp hless hto
      have hw1 : IntKind.i64.wrap ((j : Int) + 1 - 1) = (j : Int) := by rw [IntWalk.i64_in ((j : Int) + 1 - 1) (by omega)]; omega
      have hj0 : (0 : Int) ≤ (j : Int) := by omega
      have hj1 : (j : Int) < (len : Int) := by omega
      have hj2 : (j : Int) + 1 < (len : Int) := by omega
      have hj3 : ((j : Int) + 1).toNat = j + 1 := by omega
      by_cases hb : Op.bytesLess p.toList s.toList = true
      · go_wp2_with fail
        go_quiet (fail)
        go_wp2_with fail
        refine ⟨⟨j + 1 + 1, by omega, by omega, by go_num, ?_, _, rfl⟩, ?_⟩
        · show ascTo l (j + 1 + 1) = true
          rw [HTo.out, HA.out, HLs.out]; simpa using hb
        · simp [intOf]; omega
      · have hbf : Op.bytesLess p.toList s.toList = false := by simpa using hb
        have hno : ascB l = false := by
          rw [ascB, List.all_eq_false]
          refine ⟨j, List.mem_range.2 (by rw [HL.out]; omega), ?_⟩
          rw [HLs.out, hbf]; simp
        have HNO := Lib.hid hno
        clear hno hb
        go_wp2_with fail
        go_quiet (fail)
        go_wp2_with fail
        go_ret
        exact ⟨ret_bool HNO.out.symm, below_drewN (below_drewN (Below.refl _ _) _) _⟩
    · have hyes : ascB l = true := by
        have := HA.out
        rw [ascB, HL.out]
        rw [ascTo] at this
        have e : len - 1 = j + 1 - 1 := by omega
        rw [e]; exact this
      have HY := Lib.hid hyes
      clear hyes
      go_wp2_with fail
      go_ret
      exact ⟨ret_bool HY.out.symm, below_drewN (Below.refl _ _) _⟩

theorem box_cell {w w2 : World} {cs : Array Value} {t : TypeId} (hb : Below (w.alloc (.cells cs t)).heap.size (w.alloc (.cells cs t)) w2) (i : Nat) (v : Value) (h : cs[i]? = some v) : w2.cell? ⟨w.heap.size, i, none⟩ = some v := by
  have hh : (w.alloc (.cells cs t)).heap[w.heap.size]? = some (.cells cs t) := by
    show (w.heap.push (.cells cs t))[w.heap.size]? = _
    simp
  rw [hb.cell (p := ⟨w.heap.size, i, none⟩) (by simp)]
  unfold World.cell?
  simp only [hh]
  simpa using h
theorem all_step {l : List ByteArray} {p : ByteArray → Bool} {k : Nat} {s : ByteArray} (h : l[k]? = some s) (ha : (l.take k).all p = true) (hs : p s = true) : (l.take (k + 1)).all p = true := by
  rw [List.take_add_one, h, List.all_append, ha]; simp [hs]
theorem all_no {l : List ByteArray} {p : ByteArray → Bool} {k : Nat} {s : ByteArray} (h : l[k]? = some s) (hs : p s = false) : l.all p = false := by
  rw [List.all_eq_false]; exact ⟨s, List.mem_of_getElem? h, by simp [hs]⟩

/-- Has a value what its Kind uses, and nothing else? -/
def properB : JV → Bool
  | .mk k n t names items =>
    if (k ≠ 1 ∧ k ≠ 2 ∧ n ≠ 0) ∨ (k ≠ 3 ∧ t.toList ≠ []) then false
    else if (k ≠ 5 ∧ 0 < names.length) ∨ (k ≠ 5 ∧ k ≠ 4 ∧ 0 < items.length) then false
    else if k = 1 then decide (n = 0) || decide (n = 1)
    else if k = 2 ∨ k = 4 then true
    else if k = 3 then writ t
    else if k = 5 then decide (names.length = items.length) && ascB names && names.all writ
    else false

set_option maxRecDepth 100000 in
set_option maxHeartbeats 1000000 in
theorem proper1 (n : Int) (t : ByteArray) (names : List ByteArray) (items : List JV) (vn vi : Value) (w : World) (_n0 : -9223372036854775808 ≤ n) (_n1 : n ≤ 9223372036854775807) (_ht : t.size ≤ maxLen) (hns : StrsAt w vn names) (his : ItemsAt w vi items) (r : Bool) (hr : Hid (properB (.mk 1 n t names items) = r)) :
    Calls Tryd.prog 52 #[.agg #[.int .u8 1, .int .i64 n, .string t, vn, vi]] w fun e w' => e = .returned (.bool r) ∧ Below w.heap.size w w' := by
  obtain ⟨an, ncap, rfl, hnl, hnm, hnc⟩ := hns.parts
  obtain ⟨ai, icap, rfl, hil, hic⟩ := his.parts
  clear his hic
  obtain ⟨nlen, hnlen⟩ : ∃ n, names.length = n := ⟨_, rfl⟩
  obtain ⟨ilen, hilen⟩ : ∃ n, items.length = n := ⟨_, rfl⟩
  rw [hnlen] at hnl hns ⊢
  rw [hilen] at hil ⊢
  have HN := Lib.hid hnlen
  have HI := Lib.hid hilen
  have HNM := Lib.hid hnm
  have HNC := Lib.hid hnc
  clear hnlen hilen hnm hnc
  go_enter Tryd.func52, Tryd.ntmps52
  go_wp2_with fail
  all_goals
    go_ret
    refine ⟨ret_bool ?_, (Below.refl _ _).alloc (Nat.le_refl _) _⟩
    rw [← hr.out]
    go_light
    have hn' := HN.out
    have hi' := HI.out
    clear HN HI HNM HNC hr
    simp_all [properB]
    all_goals first | done | omega | (rw [Bool.eq_iff_iff]; simp; omega)

set_option maxRecDepth 100000 in
set_option maxHeartbeats 1000000 in
theorem proper2 (n : Int) (t : ByteArray) (names : List ByteArray) (items : List JV) (vn vi : Value) (w : World) (_n0 : -9223372036854775808 ≤ n) (_n1 : n ≤ 9223372036854775807) (_ht : t.size ≤ maxLen) (hns : StrsAt w vn names) (his : ItemsAt w vi items) (r : Bool) (hr : Hid (properB (.mk 2 n t names items) = r)) :
    Calls Tryd.prog 52 #[.agg #[.int .u8 2, .int .i64 n, .string t, vn, vi]] w fun e w' => e = .returned (.bool r) ∧ Below w.heap.size w w' := by
  obtain ⟨an, ncap, rfl, hnl, hnm, hnc⟩ := hns.parts
  obtain ⟨ai, icap, rfl, hil, hic⟩ := his.parts
  clear his hic
  obtain ⟨nlen, hnlen⟩ : ∃ n, names.length = n := ⟨_, rfl⟩
  obtain ⟨ilen, hilen⟩ : ∃ n, items.length = n := ⟨_, rfl⟩
  rw [hnlen] at hnl hns ⊢
  rw [hilen] at hil ⊢
  have HN := Lib.hid hnlen
  have HI := Lib.hid hilen
  have HNM := Lib.hid hnm
  have HNC := Lib.hid hnc
  clear hnlen hilen hnm hnc
  go_enter Tryd.func52, Tryd.ntmps52
  go_wp2_with fail
  all_goals
    go_ret
    refine ⟨ret_bool ?_, (Below.refl _ _).alloc (Nat.le_refl _) _⟩
    rw [← hr.out]
    go_light
    have hn' := HN.out
    have hi' := HI.out
    clear HN HI HNM HNC hr
    simp_all [properB]
    all_goals first | done | omega | (rw [Bool.eq_iff_iff]; simp; omega)

set_option maxRecDepth 100000 in
set_option maxHeartbeats 1000000 in
theorem proper4 (n : Int) (t : ByteArray) (names : List ByteArray) (items : List JV) (vn vi : Value) (w : World) (_n0 : -9223372036854775808 ≤ n) (_n1 : n ≤ 9223372036854775807) (_ht : t.size ≤ maxLen) (hns : StrsAt w vn names) (his : ItemsAt w vi items) (r : Bool) (hr : Hid (properB (.mk 4 n t names items) = r)) :
    Calls Tryd.prog 52 #[.agg #[.int .u8 4, .int .i64 n, .string t, vn, vi]] w fun e w' => e = .returned (.bool r) ∧ Below w.heap.size w w' := by
  obtain ⟨an, ncap, rfl, hnl, hnm, hnc⟩ := hns.parts
  obtain ⟨ai, icap, rfl, hil, hic⟩ := his.parts
  clear his hic
  obtain ⟨nlen, hnlen⟩ : ∃ n, names.length = n := ⟨_, rfl⟩
  obtain ⟨ilen, hilen⟩ : ∃ n, items.length = n := ⟨_, rfl⟩
  rw [hnlen] at hnl hns ⊢
  rw [hilen] at hil ⊢
  have HN := Lib.hid hnlen
  have HI := Lib.hid hilen
  have HNM := Lib.hid hnm
  have HNC := Lib.hid hnc
  clear hnlen hilen hnm hnc
  go_enter Tryd.func52, Tryd.ntmps52
  go_wp2_with fail
  all_goals
    go_ret
    refine ⟨ret_bool ?_, (Below.refl _ _).alloc (Nat.le_refl _) _⟩
    rw [← hr.out]
    go_light
    have hn' := HN.out
    have hi' := HI.out
    clear HN HI HNM HNC hr
    simp_all [properB]
    all_goals first | done | omega | (rw [Bool.eq_iff_iff]; simp; omega)

set_option maxRecDepth 100000 in
set_option maxHeartbeats 1000000 in
theorem proper0 (k : Int) (h1 : ¬ k = 1) (h2 : ¬ k = 2) (h3 : ¬ k = 3) (h4 : ¬ k = 4) (h5 : ¬ k = 5) (n : Int) (t : ByteArray) (names : List ByteArray) (items : List JV) (vn vi : Value) (w : World) (_n0 : -9223372036854775808 ≤ n) (_n1 : n ≤ 9223372036854775807) (_ht : t.size ≤ maxLen) (hns : StrsAt w vn names) (his : ItemsAt w vi items) (r : Bool) (hr : Hid (properB (.mk k n t names items) = r)) :
    Calls Tryd.prog 52 #[.agg #[.int .u8 k, .int .i64 n, .string t, vn, vi]] w fun e w' => e = .returned (.bool r) ∧ Below w.heap.size w w' := by
  obtain ⟨an, ncap, rfl, hnl, hnm, hnc⟩ := hns.parts
  obtain ⟨ai, icap, rfl, hil, hic⟩ := his.parts
  clear his hic
  obtain ⟨nlen, hnlen⟩ : ∃ n, names.length = n := ⟨_, rfl⟩
  obtain ⟨ilen, hilen⟩ : ∃ n, items.length = n := ⟨_, rfl⟩
  rw [hnlen] at hnl hns ⊢
  rw [hilen] at hil ⊢
  have HN := Lib.hid hnlen
  have HI := Lib.hid hilen
  have HNM := Lib.hid hnm
  have HNC := Lib.hid hnc
  clear hnlen hilen hnm hnc
  have hr' : r = false := by
    rw [← hr.out, properB]
    simp [h1, h2, h3, h4, h5]
  have e1 : (k == 1) = false := beq_eq_false_iff_ne.2 h1
  have e2 : (k == 2) = false := beq_eq_false_iff_ne.2 h2
  have e3 : (k == 3) = false := beq_eq_false_iff_ne.2 h3
  have e4 : (k == 4) = false := beq_eq_false_iff_ne.2 h4
  have e5 : (k == 5) = false := beq_eq_false_iff_ne.2 h5
  have f1 : (k != 1) = true := by simp [h1]
  have f2 : (k != 2) = true := by simp [h2]
  have f3 : (k != 3) = true := by simp [h3]
  have f4 : (k != 4) = true := by simp [h4]
  have f5 : (k != 5) = true := by simp [h5]
  subst hr'
  clear hr h1 h2 h3 h4 h5
  go_enter Tryd.func52, Tryd.ntmps52
  go_wp2_with fail
  all_goals
    go_ret
    exact ⟨rfl, (Below.refl _ _).alloc (Nat.le_refl _) _⟩

set_option maxRecDepth 100000 in
set_option maxHeartbeats 1000000 in
theorem proper3 (n : Int) (t : ByteArray) (names : List ByteArray) (items : List JV) (vn vi : Value) (w : World) (n0 : -9223372036854775808 ≤ n) (n1 : n ≤ 9223372036854775807) (ht : t.size ≤ maxLen) (hns : StrsAt w vn names) (his : ItemsAt w vi items) (r : Bool) (hr : Hid (properB (.mk 3 n t names items) = r)) :
    Calls Tryd.prog 52 #[.agg #[.int .u8 3, .int .i64 n, .string t, vn, vi]] w fun e w' => e = .returned (.bool r) ∧ Below w.heap.size w w' := by
  obtain ⟨an, ncap, rfl, hnl, hnm, hnc⟩ := hns.parts
  obtain ⟨ai, icap, rfl, hil, hic⟩ := his.parts
  clear his hic
  obtain ⟨nlen, hnlen⟩ : ∃ n, names.length = n := ⟨_, rfl⟩
  obtain ⟨ilen, hilen⟩ : ∃ n, items.length = n := ⟨_, rfl⟩
  rw [hnlen] at hnl hns ⊢
  rw [hilen] at hil ⊢
  have HN := Lib.hid hnlen
  have HI := Lib.hid hilen
  have HNM := Lib.hid hnm
  have HNC := Lib.hid hnc
  clear hnlen hilen hnm hnc
  by_cases hok : n = 0 ∧ nlen = 0 ∧ ilen = 0
  · obtain ⟨rfl, rfl, rfl⟩ := hok
    have hw : properB (.mk 3 0 t names items) = writ t := by
      have hn' := HN.out
      have hi' := HI.out
      simp_all [properB]
    have HW := Lib.hid (hw.symm.trans hr.out)
    clear hw hr
    go_enter Tryd.func52, Tryd.ntmps52
    go_wp2_with fail
    refine (written_any t _ ht).mono ?_
    rintro e w' ⟨rfl, hb⟩
    go_wp2_with fail
    go_ret
    exact ⟨ret_bool HW.out, below_more ((Below.refl _ _).alloc (Nat.le_refl _) _) hb⟩
  · have hno : r = false := by
      rw [← hr.out]
      have hn' := HN.out
      have hi' := HI.out
      clear HN HI HNM HNC hr
      simp only [properB]
      rw [hn', hi']
      by_cases hn0 : n = 0
      · by_cases hnn : nlen = 0
        · have : 0 < ilen := by omega
          simp [hn0, hnn, this]
        · have : 0 < nlen := by omega
          simp [hn0, this]
      · simp [hn0]
    subst hno
    clear hr
    by_cases hn0 : n = 0
    · by_cases hnn : nlen = 0
      · have hi0 : 0 < ilen := by omega
        clear hok
        go_enter Tryd.func52, Tryd.ntmps52
        go_wp2_with fail
        go_ret
        exact ⟨rfl, (Below.refl _ _).alloc (Nat.le_refl _) _⟩
      · have hi0 : 0 < nlen := by omega
        clear hok
        go_enter Tryd.func52, Tryd.ntmps52
        go_wp2_with fail
        go_ret
        exact ⟨rfl, (Below.refl _ _).alloc (Nat.le_refl _) _⟩
    · clear hok
      go_enter Tryd.func52, Tryd.ntmps52
      go_wp2_with fail
      go_ret
      exact ⟨rfl, (Below.refl _ _).alloc (Nat.le_refl _) _⟩

set_option maxRecDepth 100000 in
set_option maxHeartbeats 1000000 in
theorem proper5 (n : Int) (t : ByteArray) (names : List ByteArray) (items : List JV) (vn vi : Value) (w : World) (n0 : -9223372036854775808 ≤ n) (n1 : n ≤ 9223372036854775807) (_ht : t.size ≤ maxLen) (hns : StrsAt w vn names) (his : ItemsAt w vi items) (r : Bool) (hr : Hid (properB (.mk 5 n t names items) = r)) :
    Calls Tryd.prog 52 #[.agg #[.int .u8 5, .int .i64 n, .string t, vn, vi]] w fun e w' => e = .returned (.bool r) ∧ Below w.heap.size w w' := by
  obtain ⟨an, ncap, rfl, hnl, hnm, hnc⟩ := hns.parts
  obtain ⟨ai, icap, rfl, hil, hic⟩ := his.parts
  clear his hic
  obtain ⟨nlen, hnlen⟩ : ∃ n, names.length = n := ⟨_, rfl⟩
  obtain ⟨ilen, hilen⟩ : ∃ n, items.length = n := ⟨_, rfl⟩
  rw [hnlen] at hnl hns ⊢
  rw [hilen] at hil ⊢
  have HN := Lib.hid hnlen
  have HI := Lib.hid hilen
  have HNM := Lib.hid hnm
  have HNC := Lib.hid hnc
  clear hnlen hilen hnm hnc
  by_cases hok : n = 0 ∧ t.toList = [] ∧ nlen = ilen
  · obtain ⟨rfl, ht0, rfl⟩ := hok
    have hw : properB (.mk 5 0 t names items) = (ascB names && names.all writ) := by
      have hn' := HN.out
      have hi' := HI.out
      simp_all [properB]
    have HW := Lib.hid (hw.symm.trans hr.out)
    clear hw hr
    have hneb : ((nlen : Int) != (nlen : Int)) = false := by simp
    go_enter Tryd.func52, Tryd.ntmps52
    go_wp2_with fail
    have hb1 : Below w.heap.size w (w.alloc (.cells #[.int .u8 5, .int .i64 0, .string t, .slice an nlen ncap, .slice ai nlen icap] 25)) := (Below.refl _ _).alloc (Nat.le_refl _) _
    refine (ascending_any names _ _ (hns.keep hb1)).mono ?_
    rintro e w2 ⟨rfl, hb2⟩
    have hB2 := below_more hb1 hb2
    have hc3 := box_cell hb2 3 _ rfl
    by_cases ha : ascB names = true
    · have HW2 : Hid (names.all writ = r) := by have := HW.out; rw [ha] at this; simpa [Hid] using this
      clear HW
      go_wp2_with fail
      go_loopw [91] (fun i wr => ∃ k : Nat, k ≤ nlen ∧ i = .int .i64 k ∧ Hid ((names.take k).all writ = true) ∧ Below w.heap.size w wr) (fun i _ => nlen - (intOf i).toNat)
      case atStart => exact ⟨0, by omega, rfl, rfl, hB2⟩
      case round =>
        obtain ⟨k, hk, rfl, HA, hBr⟩ := hrel
        by_cases hlt : k < nlen
        · obtain ⟨s, hs⟩ : ∃ s, names[k]? = some s := ⟨_, List.getElem?_eq_getElem (by rw [HN.out]; exact hlt)⟩
          obtain ⟨b, o, rfl, hcell⟩ := HNC.out k s hs
          have hcr := cell_keep hBr hcell
          have hss := HNM.out s (List.mem_of_getElem? hs)
          have HS := Lib.hid hs
          clear hs hcell
          go_wp2_with fail
          refine (written_any s _ hss).mono ?_
          rintro e w4 ⟨rfl, hb4⟩
          have hB4 := below_more hBr hb4
          by_cases hws : writ s = true
          · go_wp2_with fail
            refine ⟨?_, by simp [intOf]; omega⟩
            first | exact ⟨k + 1, by omega, by go_num, all_step HS.out HA.out hws, hB4⟩ | ((repeat apply Exists.intro); exact ⟨⟨k + 1, by omega, by go_num, all_step HS.out HA.out hws, hB4⟩, rfl⟩)
          · have hwf : writ s = false := by simpa using hws
            have HF := Lib.hid ((all_no HS.out hwf).symm.trans HW2.out)
            clear hws
            go_wp2_with fail
            go_ret
            exact ⟨ret_bool HF.out, hB4⟩
        · have hall : names.all writ = true := by
            have := HA.out
            rwa [List.take_of_length_le (by rw [HN.out]; omega)] at this
          have HF := Lib.hid (hall.symm.trans HW2.out)
          clear hall
          go_wp2_with fail
          go_ret
          exact ⟨ret_bool HF.out, hBr⟩
    · have haf : ascB names = false := by simpa using ha
      have HF : Hid (false = r) := by have := HW.out; rw [haf] at this; simpa [Hid] using this
      clear ha HW
      go_wp2_with fail
      go_ret
      exact ⟨ret_bool HF.out, hB2⟩
  · have hno : r = false := by
      rw [← hr.out]
      have hn' := HN.out
      have hi' := HI.out
      clear HN HI HNM HNC hr
      simp only [properB]
      rw [hn', hi']
      by_cases hn0 : n = 0
      · by_cases htt : t.toList = []
        · have : ¬ nlen = ilen := fun h => hok ⟨hn0, htt, h⟩
          simp [hn0, htt, this]
        · simp [hn0, htt]
      · simp [hn0]
    subst hno
    clear hr
    by_cases hn0 : n = 0
    · by_cases htt : t.toList = []
      · have hne : ((nlen : Int) != (ilen : Int)) = true := by
          have : ¬ nlen = ilen := fun h => hok ⟨hn0, htt, h⟩
          rw [bne_iff_ne]; omega
        clear hok
        go_enter Tryd.func52, Tryd.ntmps52
        go_wp2_with fail
        go_ret
        exact ⟨rfl, (Below.refl _ _).alloc (Nat.le_refl _) _⟩
      · have hte : (!t.toList.isEmpty) = true := by cases h : t.toList <;> simp_all
        clear hok
        go_enter Tryd.func52, Tryd.ntmps52
        go_wp2_with fail
        go_ret
        exact ⟨rfl, (Below.refl _ _).alloc (Nat.le_refl _) _⟩
    · clear hok
      go_enter Tryd.func52, Tryd.ntmps52
      go_wp2_with fail
      go_ret
      exact ⟨rfl, (Below.refl _ _).alloc (Nat.le_refl _) _⟩

/-- value.proper, at any value. -/
theorem proper_any (V : JV) (v : Value) (w : World) (h : ValAt w V v) :
    Calls Tryd.prog 52 #[v] w fun e w' => e = .returned (.bool (properB V)) ∧ Below w.heap.size w w' := by
  cases V with
  | mk k n t names items =>
    obtain ⟨vn, vi, rfl, k0, k1, n0, n1, ht, hns, his⟩ := valAt_iff.1 h
    simp only [JV.k, JV.n, JV.t, JV.names, JV.items] at *
    by_cases h1 : k = 1
    · subst h1; exact proper1 n t names items vn vi w n0 n1 ht hns his _ rfl
    by_cases h2 : k = 2
    · subst h2; exact proper2 n t names items vn vi w n0 n1 ht hns his _ rfl
    by_cases h3 : k = 3
    · subst h3; exact proper3 n t names items vn vi w n0 n1 ht hns his _ rfl
    by_cases h4 : k = 4
    · subst h4; exact proper4 n t names items vn vi w n0 n1 ht hns his _ rfl
    by_cases h5 : k = 5
    · subst h5; exact proper5 n t names items vn vi w n0 n1 ht hns his _ rfl
    exact proper0 k h1 h2 h3 h4 h5 n t names items vn vi w n0 n1 ht hns his _ rfl
end Go.Proofs.YtjekdhahbkofbaaDoor
