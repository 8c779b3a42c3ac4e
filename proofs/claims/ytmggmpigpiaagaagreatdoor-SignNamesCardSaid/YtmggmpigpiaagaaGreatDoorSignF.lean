/-
  legateref08: which values may be, as the document tells it.
  legateref08: Depth, part, May.
  legateref08: part of lists and objects; May.
  legateref16.Of: the envelope of a value, by the document.
  legateref16.Of: the envelope of a value, by the document: the walk.
-/
import Derived.Test.YtmggmpigpiaagaaGreatDoorUtfA
import Derived.Test.YtmggmpigpiaagaaGreatDoorSignP
import Derived.Test.YtmggmpigpiaagaaGreatDoorSignD
namespace Go.Proofs.YtmggmpigpiaagaaGreatDoor
section
set_option maxRecDepth 100000
open Go.RowKit
theorem refWrit_any (s : ByteArray) (w : World) (hs : s.size ≤ 281474976710656) (r : Bool) (hr : Hid (writ s = r)) :
   Calls Tryz.prog 96 #[.string s] w fun e w' => e = .returned (.bool r) ∧ Below w.heap.size w w' := by
 obtain ⟨u, hu⟩ : ∃ u, utfOK s = u := ⟨_, rfl⟩
 have hL := refLen_any s w hs
 unfold RefLenPost at hL
 rw [hu] at hL
 have hrr : r = (decide (s.size ≤ 4096) && u) := by rw [← hr.out, writ, hu]
 have HRR := Lib.hid hrr
 clear hrr hu hr
 cases u with
 | true =>
   go_enter Tryz.func96, Tryz.ntmps96
   go_wp2_with fail
   refine hL.mono ?_
   rintro e w2 ⟨n, rfl, hb⟩
   go_wp2_with fail
   go_ret
   refine ⟨ret_bool ?_, hb⟩
   rw [HRR.out, Bool.and_true]
   rw [Bool.eq_iff_iff, decide_eq_true_eq, decide_eq_true_eq]
   omega
 | false =>
   go_enter Tryz.func96, Tryz.ntmps96
   go_wp2_with fail
   refine hL.mono ?_
   rintro e w2 ⟨n, rfl, hb⟩
   go_wp2_with fail
   go_ret
   exact ⟨ret_bool (by rw [HRR.out, Bool.and_false]), hb⟩
theorem less_tri : ∀ (x y : List UInt8), (Op.bytesLess x y = true ∧ Op.bytesLess y x = false ∧ y ≠ x) ∨ (Op.bytesLess x y = false ∧ (Op.bytesLess y x = true ∨ y = x))
 | [], [] => Or.inr ⟨rfl, Or.inr rfl⟩
 | [], b :: y => Or.inl ⟨rfl, rfl, by simp⟩
 | a :: x, [] => Or.inr ⟨rfl, Or.inl rfl⟩
 | a :: x, b :: y => by
   simp only [Op.bytesLess]
   by_cases h1 : a < b
   · have h2 : ¬ b < a := by rw [UInt8.lt_iff_toNat_lt] at h1 ⊢; omega
     have h3 : ¬ b = a := by rintro rfl; exact h2 h1
     exact Or.inl ⟨by simp [h1], by simp [h2, h3], by simp [h3]⟩
   · by_cases h2 : b < a
     · have h3 : ¬ a = b := by rintro rfl; exact h1 h2
       exact Or.inr ⟨by simp [h1, h3], Or.inl (by simp [h2])⟩
     · have h3 : a = b := by
         apply UInt8.toNat_inj.1
         rw [UInt8.lt_iff_toNat_lt] at h1 h2
         omega
       subst h3
       rcases less_tri x y with ⟨g1, g2, g3⟩ | ⟨g1, g2⟩
       · exact Or.inl ⟨by simp [g1], by simp [g2, h1], by simp [g3]⟩
       · refine Or.inr ⟨by simp [g1, h1], ?_⟩
         rcases g2 with g2 | g2
         · exact Or.inl (by simp [g2])
         · exact Or.inr (by rw [g2])
set_option maxHeartbeats 1000000 in
theorem refRise_any (l : List ByteArray) (v : Value) (w : World) (h : StrsAt w v l) :
   Calls Tryz.prog 97 #[v] w fun e w' => e = .returned (.bool (ascB l)) ∧ Below w.heap.size w w' := by
 obtain ⟨a, cap, rfl, hl, hm, hc⟩ := h.parts
 have HC := Lib.hid hc
 clear hc h hm
 obtain ⟨len, hlen⟩ : ∃ n, l.length = n := ⟨_, rfl⟩
 rw [hlen] at hl ⊢
 have HL := Lib.hid hlen
 clear hlen
 go_enter Tryz.func97, Tryz.ntmps97
 go_wp2_with fail
 go_loopw [3] (fun i wr => ∃ k : Nat, 1 ≤ k ∧ (k ≤ len ∨ k = 1) ∧ i = .int .i64 k ∧ Hid (ascTo l k = true) ∧ ∃ nq, wr = w.drewN nq) (fun i _ => len - (intOf i).toNat)
 case atStart => exact ⟨1, by omega, Or.inr rfl, rfl, rfl, 0, rfl⟩
 case round =>
   obtain ⟨k, hk1, hk, rfl, HA, nq, rfl⟩ := hrel
   obtain ⟨j, rfl⟩ : ∃ j, k = j + 1 := ⟨k - 1, by omega⟩
   by_cases hlt : j + 1 < len
   · obtain ⟨s, hs⟩ : ∃ s, l[j + 1]? = some s := ⟨_, List.getElem?_eq_getElem (by rw [HL.out]; exact hlt)⟩
     obtain ⟨p, hp⟩ : ∃ s, l[j]? = some s := ⟨_, List.getElem?_eq_getElem (by rw [HL.out]; omega)⟩
     obtain ⟨b, o, rfl, hcs⟩ := HC.out (j + 1) s hs
     obtain ⟨b', o', hbo, hcp⟩ := HC.out j p hp
     simp only [Option.some.injEq, Addr.mk.injEq, and_true] at hbo
     obtain ⟨rfl, rfl⟩ := hbo
     have hless : lessAt l j = Op.bytesLess p.toList s.toList := by simp [lessAt, List.getD, hs, hp]
     have hto : ascTo l (j + 1 + 1) = (ascTo l (j + 1) && lessAt l j) := by
       simp only [ascTo, Nat.add_sub_cancel, List.range_succ, List.all_append, List.all_cons, List.all_nil, Bool.and_true]
     have HLs := Lib.hid hless
     have HTo := Lib.hid hto
     clear hs hp hless hto
     have hw1 : IntKind.i64.wrap ((j : Int) + 1 - 1) = (j : Int) := by rw [IntWalk.i64_in ((j : Int) + 1 - 1) (by omega)]; omega
     have hj0 : (0 : Int) ≤ (j : Int) := by omega
     have hj1 : (j : Int) < (len : Int) := by omega
     have hj2 : (j : Int) + 1 < (len : Int) := by omega
     have hj3 : ((j : Int) + 1).toNat = j + 1 := by omega
     by_cases hb : Op.bytesLess p.toList s.toList = true
     · have hb1 : Op.bytesLess s.toList p.toList = false ∧ (s.toList == p.toList) = false := by
         rcases less_tri p.toList s.toList with ⟨_, g2, g3⟩ | ⟨g1, _⟩
         · exact ⟨g2, beq_eq_false_iff_ne.2 g3⟩
         · rw [g1] at hb; cases hb
       obtain ⟨hb2, hb3⟩ := hb1
       go_wp2_with fail
       go_quiet (fail)
       go_wp2_with fail
       refine ⟨⟨j + 1 + 1, by omega, by omega, by go_num, ?_, _, rfl⟩, ?_⟩
       · show ascTo l (j + 1 + 1) = true
         rw [HTo.out, HA.out, HLs.out]; simpa using hb
       · simp [intOf]; omega
     · have hbf : Op.bytesLess p.toList s.toList = false := by simpa using hb
       have hno : ascB l = false := by
         rw [ascB, List.all_eq_false]
         refine ⟨j, List.mem_range.2 (by rw [HL.out]; omega), ?_⟩
         rw [HLs.out, hbf]; simp
       have HNO := Lib.hid hno
       have hb1 : Op.bytesLess s.toList p.toList = true ∨ (s.toList == p.toList) = true := by
         rcases less_tri p.toList s.toList with ⟨g1, _⟩ | ⟨_, g2⟩
         · rw [g1] at hbf; cases hbf
         · rcases g2 with g2 | g2
           · exact Or.inl g2
           · exact Or.inr (by rw [g2]; exact beq_self_eq_true _)
       clear hno hb
       rcases hb1 with hb1 | hb1
       all_goals
         go_wp2_with fail
         go_quiet (fail)
         go_wp2_with fail
         go_ret
         exact ⟨ret_bool HNO.out.symm, bel_drewN (bel_drewN (Below.refl _ _) _) _⟩
   · have hyes : ascB l = true := by
       have := HA.out
       rw [ascB, HL.out]
       rw [ascTo] at this
       have e : len - 1 = j + 1 - 1 := by omega
       rw [e]; exact this
     have HY := Lib.hid hyes
     clear hyes
     go_wp2_with fail
     go_ret
     exact ⟨ret_bool HY.out.symm, bel_drewN (Below.refl _ _) _⟩
theorem countL_take {items : List JV} {j : Nat} {x : JV} (h : items[j]? = some x) : countL (items.take (j + 1)) = countL (items.take j) + countV x := by
 have app : ∀ a b : List JV, countL (a ++ b) = countL a + countL b := by
   intro a b
   induction a with
   | nil => simp [countL]
   | cons y r ih => simp only [List.cons_append, countL, ih]; omega
 rw [List.take_add_one, h, app]; simp [countL]
theorem depthL_take {items : List JV} {j : Nat} {x : JV} (h : items[j]? = some x) : depthL (items.take (j + 1)) = max (depthL (items.take j)) (depthV x) := by
 have app : ∀ a b : List JV, depthL (a ++ b) = max (depthL a) (depthL b) := by
   intro a b
   induction a with
   | nil => simp [depthL]
   | cons y r ih => simp only [List.cons_append, depthL, ih]; omega
 rw [List.take_add_one, h, app]; simp [depthL]
theorem countL_takeLe (items : List JV) (j : Nat) : countL (items.take j) ≤ countL items := by
 have app : ∀ a b : List JV, countL (a ++ b) = countL a + countL b := by
   intro a b
   induction a with
   | nil => simp [countL]
   | cons y r ih => simp only [List.cons_append, countL, ih]; omega
 have := app (items.take j) (items.drop j)
 rw [List.take_append_drop] at this
 omega
mutual
theorem depth_count : ∀ (V : JV), depthV V ≤ countV V
 | .mk k n t names items => by
   rw [depthV, countV]
   have := depth_countL items
   split <;> omega
theorem depth_countL : ∀ (l : List JV), depthL l ≤ countL l
 | [] => by rw [depthL, countL]; omega
 | x :: r => by
   rw [depthL, countL]
   have h1 := depth_count x
   have h2 := depth_countL r
   omega
end
set_option maxHeartbeats 2000000 in
theorem refCount_any (N : Nat) : ∀ (V : JV) (v : Value) (w : World), SizeOf.sizeOf V < N → ValAt w V v → countV V ≤ 1000000000 →
   Calls Tryz.prog 74 #[v] w fun e w' => e = .returned (.int .i64 (countV V)) ∧ Below w.heap.size w w' := by
 induction N with
 | zero => intro V v w h; omega
 | succ N ih =>
   intro V v w hN hV hcnt
   have HIH := Lib.hid ih
   clear ih
   obtain ⟨vn, vi, rfl, k0, k1, n0, n1, ht, hns, his⟩ := valAt_iff.1 hV
   have HIs := Lib.hid his
   obtain ⟨ai, icap, rfl, hI1, -⟩ := his.parts
   obtain ⟨an, ncap, rfl, -, -, -⟩ := hns.parts
   obtain ⟨il, e2⟩ : ∃ x, V.items.length = x := ⟨_, rfl⟩
   rw [e2] at hI1 HIs ⊢
   have HE2 := Lib.hid e2
   clear e2 his hns hV
   have hcv := countV_eq V
   rw [hcv] at hcnt
   have HCV := Lib.hid hcv
   clear hcv
   obtain ⟨w2, hw2⟩ : ∃ x, x = w.alloc (.cells #[.int .u8 V.k, .int .i64 V.n, .string V.t, .slice an V.names.length ncap, .slice ai il icap] 26) := ⟨_, rfl⟩
   have hB2 : Below w.heap.size w w2 := by rw [hw2]; exact bel_alloc (Below.refl _ _) _
   have a4 : w2.cell? ⟨w.heap.size, 4, none⟩ = some (.slice ai il icap) := by rw [hw2, cell_al_eq _ _ _ _ _ rfl]; rfl
   have HW := Lib.hid hw2
   clear hw2
   go_enter Tryz.func74, Tryz.ntmps74
   go_wp2_with fail
   rw [← HW.out]
   go_loopw [3, 4] (fun n i wr => ∃ (j m : Nat), j ≤ il ∧ i = .int .i64 j ∧ n = .int .i64 m ∧ m ≤ 1000000000 ∧ Hid (m = 1 + countL (V.items.take j)) ∧ Below w2.heap.size w2 wr) (fun _ i _ => il - (intOf i).toNat)
   case atStart => exact ⟨0, 1, by omega, rfl, rfl, by omega, by simp [Hid, countL], Below.refl _ _⟩
   case round =>
     obtain ⟨j, m, hj, rfl, rfl, hm, HM, hbr⟩ := hrel
     have c4 := cell_keep hbr a4
     by_cases hjl : j < il
     · obtain ⟨x, hx⟩ : ∃ x, V.items[j]? = some x := ⟨_, List.getElem?_eq_getElem (by rw [HE2.out]; exact hjl)⟩
       obtain ⟨_, _, e', -, hpart⟩ := (HIs.out.keep (below_more hB2 hbr)).parts
       simp only [Value.slice.injEq] at e'
       obtain ⟨rfl, -, rfl⟩ := e'
       obtain ⟨xb, xo, xn, xi, rfl, x0, x1, x2, x3, x4, q⟩ := hpart j x hx
       have hvx := valAt_iff.2 ⟨xn, xi, rfl, q⟩
       obtain ⟨-, -, -, -, -, q1, q2⟩ := q
       obtain ⟨xi1, xi2, rfl, -, -⟩ := q2.parts
       obtain ⟨xn1, xn2, rfl, -, -, -⟩ := q1.parts
       have hst := countL_take hx
       have hle := countL_takeLe V.items (j + 1)
       have hcx : countV x ≤ 1000000000 := by omega
       have hsx := JV.size_item (List.mem_of_getElem? hx)
       have hcall := HIH.out x _ wr (by omega) hvx hcx
       have HST := Lib.hid hst
       have HC := Lib.hid hcall
       have hmx : m + countV x ≤ 1000000000 := by have := HM.out; omega
       have hj0' : (0 : Int) ≤ (j : Int) := by omega
       have hj1' : (j : Int) < (il : Int) := by omega
       clear hst hcall hpart hx q1 q2 hvx hle
       go_wp2_with fail
       refine HC.out.mono ?_
       rintro e w4 ⟨rfl, hb4⟩
       go_wp2_with fail
       refine ⟨⟨j + 1, m + countV x, by omega, by go_num, by go_num, by omega, ?_, below_more hbr hb4⟩, by simp [intOf]; omega⟩
       show m + countV x = _
       have h1 := HM.out
       have h2 := HST.out
       omega
     · have hall : (m : Int) = countV V := by
         have := HM.out
         rw [List.take_of_length_le (by rw [HE2.out]; omega)] at this
         have h2 := HCV.out
         omega
       have HALL := Lib.hid hall
       clear hall
       go_wp2_with fail
       go_ret
       exact ⟨ret_int HALL.out, below_more hB2 hbr⟩
end

section
set_option maxRecDepth 100000
open Go.RowKit
set_option maxHeartbeats 2000000 in
theorem refDepth_any (N : Nat) : ∀ (V : JV) (v : Value) (w : World), SizeOf.sizeOf V < N → ValAt w V v → countV V ≤ 1000000000 →
   Calls Tryz.prog 75 #[v] w fun e w' => e = .returned (.int .i64 (depthV V)) ∧ Below w.heap.size w w' := by
 induction N with
 | zero => intro V v w h; omega
 | succ N ih =>
   intro V v w hN hV hcnt
   have HIH := Lib.hid ih
   clear ih
   obtain ⟨vn, vi, rfl, k0, k1, n0, n1, ht, hns, his⟩ := valAt_iff.1 hV
   have HIs := Lib.hid his
   obtain ⟨ai, icap, rfl, hI1, -⟩ := his.parts
   obtain ⟨an, ncap, rfl, -, -, -⟩ := hns.parts
   obtain ⟨il, e2⟩ : ∃ x, V.items.length = x := ⟨_, rfl⟩
   rw [e2] at hI1 HIs ⊢
   have HE2 := Lib.hid e2
   clear e2 his hns hV
   have hdv := depthV_eq V
   rw [countV_eq V] at hcnt
   have HDV := Lib.hid hdv
   clear hdv
   obtain ⟨w2, hw2⟩ : ∃ x, x = w.alloc (.cells #[.int .u8 V.k, .int .i64 V.n, .string V.t, .slice an V.names.length ncap, .slice ai il icap] 26) := ⟨_, rfl⟩
   have hB2 : Below w.heap.size w w2 := by rw [hw2]; exact bel_alloc (Below.refl _ _) _
   have a4 : w2.cell? ⟨w.heap.size, 4, none⟩ = some (.slice ai il icap) := by rw [hw2, cell_al_eq _ _ _ _ _ rfl]; rfl
   have HW := Lib.hid hw2
   clear hw2
   by_cases hk : V.k = 4 ∨ V.k = 5
   · have hd := HDV.out
     rw [if_pos hk] at hd
     have HD := Lib.hid hd
     clear hd HDV
     have hbb : ((V.k != 4) = false ∧ decide True = true) ∨ ((V.k != 4) = true ∧ (V.k != 5) = false) := by
       rcases hk with hk | hk
       · exact Or.inl ⟨by rw [hk]; rfl, rfl⟩
       · exact Or.inr ⟨by rw [hk]; rfl, by rw [hk]; rfl⟩
     clear hk
     rcases hbb with ⟨hk4, -⟩ | ⟨hk4, hk5⟩
     all_goals
       go_enter Tryz.func75, Tryz.ntmps75
       go_wp2_with fail
       rw [← HW.out]
       go_loopw [3, 4] (fun n i wr => ∃ (j m : Nat), j ≤ il ∧ i = .int .i64 j ∧ n = .int .i64 m ∧ m ≤ 1000000000 ∧ Hid (m = depthL (V.items.take j)) ∧ Below w2.heap.size w2 wr) (fun _ i _ => il - (intOf i).toNat)
       case atStart => exact ⟨0, 0, by omega, rfl, rfl, by omega, by simp [Hid, depthL], Below.refl _ _⟩
       case round =>
         obtain ⟨j, m, hj, rfl, rfl, hm, HM, hbr⟩ := hrel
         have c4 := cell_keep hbr a4
         by_cases hjl : j < il
         · obtain ⟨x, hx⟩ : ∃ x, V.items[j]? = some x := ⟨_, List.getElem?_eq_getElem (by rw [HE2.out]; exact hjl)⟩
           obtain ⟨_, _, e', -, hpart⟩ := (HIs.out.keep (below_more hB2 hbr)).parts
           simp only [Value.slice.injEq] at e'
           obtain ⟨rfl, -, rfl⟩ := e'
           obtain ⟨xb, xo, xn, xi, rfl, x0, x1, x2, x3, x4, q⟩ := hpart j x hx
           have hvx := valAt_iff.2 ⟨xn, xi, rfl, q⟩
           obtain ⟨-, -, -, -, -, q1, q2⟩ := q
           obtain ⟨xi1, xi2, rfl, -, -⟩ := q2.parts
           obtain ⟨xn1, xn2, rfl, -, -, -⟩ := q1.parts
           have hst := depthL_take hx
           have hle := countL_mem (List.mem_of_getElem? hx)
           have hdc := depth_count x
           have hsx := JV.size_item (List.mem_of_getElem? hx)
           have hcall := HIH.out x _ wr (by omega) hvx (by omega)
           have HST := Lib.hid hst
           have HC := Lib.hid hcall
           have hdx : depthV x ≤ 1000000000 := by omega
           have hj0' : (0 : Int) ≤ (j : Int) := by omega
           have hj1' : (j : Int) < (il : Int) := by omega
           clear hst hcall hpart hx q1 q2 hvx hle hdc
           go_wp2_with fail
           refine HC.out.mono ?_
           rintro e w4 ⟨rfl, hb4⟩
           go_wp2_with fail
           refine ⟨⟨j + 1, max m (depthV x), by omega, by go_num, congrArg (Value.int .i64) (by omega), by omega, ?_, below_more hbr hb4⟩, by simp [intOf]; omega⟩
           show max m (depthV x) = _
           rw [HST.out, ← HM.out]
         · have hall : (m : Int) + 1 = depthV V := by
             have := HM.out
             rw [List.take_of_length_le (by rw [HE2.out]; omega)] at this
             have h2 := HD.out
             omega
           have HALL := Lib.hid hall
           clear hall
           go_wp2_with fail
           go_ret
           exact ⟨ret_int HALL.out, below_more hB2 hbr⟩
   · have hd := HDV.out
     rw [if_neg hk] at hd
     have HD := Lib.hid hd
     have hk4 : (V.k != 4) = true := by simp; omega
     have hk5 : (V.k != 5) = true := by simp; omega
     clear hd HDV hk
     go_enter Tryz.func75, Tryz.ntmps75
     go_wp2_with fail
     rw [← HW.out]
     go_ret
     exact ⟨ret_int (by rw [HD.out]; rfl), hB2⟩
set_option maxHeartbeats 2000000 in
theorem refPart_1 (n : Int) (t : ByteArray) (names : List ByteArray) (items : List JV) (an ai : Option Addr) (ncap icap : Nat) (w : World) (hnl : names.length ≤ 9223372036854775807) (hil : items.length ≤ 9223372036854775807) (r : Bool) (hr : Hid (goodV (.mk 1 n t names items) = r)) :
   Calls Tryz.prog 73 #[.agg #[.int .u8 1, .int .i64 n, .string t, .slice an names.length ncap, .slice ai items.length icap]] w fun e w' => e = .returned (.bool r) ∧ Below w.heap.size w w' := by
 go_enter Tryz.func73, Tryz.ntmps73
 go_wp2_with fail
 all_goals
   go_ret
   refine ⟨ret_bool ?_, bel_alloc (Below.refl _ _) _⟩
   rw [← hr.out, goodV_eq]
   simp only [JV.k, properB]
   clear hr
   cases items <;> cases names <;> simp_all <;> omega
set_option maxHeartbeats 2000000 in
theorem refPart_2 (n : Int) (t : ByteArray) (names : List ByteArray) (items : List JV) (an ai : Option Addr) (ncap icap : Nat) (w : World) (hnl : names.length ≤ 9223372036854775807) (hil : items.length ≤ 9223372036854775807) (r : Bool) (hr : Hid (goodV (.mk 2 n t names items) = r)) :
   Calls Tryz.prog 73 #[.agg #[.int .u8 2, .int .i64 n, .string t, .slice an names.length ncap, .slice ai items.length icap]] w fun e w' => e = .returned (.bool r) ∧ Below w.heap.size w w' := by
 go_enter Tryz.func73, Tryz.ntmps73
 go_wp2_with fail
 all_goals
   go_ret
   refine ⟨ret_bool ?_, bel_alloc (Below.refl _ _) _⟩
   rw [← hr.out, goodV_eq]
   simp only [JV.k, properB]
   clear hr
   cases items <;> cases names <;> simp_all <;> omega
set_option maxHeartbeats 2000000 in
theorem refPart_0 (k n : Int) (t : ByteArray) (an ai : Option Addr) (nl il ncap icap : Nat) (w : World) (h1 : ¬ k = 1) (h2 : ¬ k = 2) (h3 : ¬ k = 3) (h4 : ¬ k = 4) (h5 : ¬ k = 5) :
   Calls Tryz.prog 73 #[.agg #[.int .u8 k, .int .i64 n, .string t, .slice an nl ncap, .slice ai il icap]] w fun e w' => e = .returned (.bool false) ∧ Below w.heap.size w w' := by
 have b1 : (k == 1) = false := beq_eq_false_iff_ne.2 h1
 have b2 : (k == 2) = false := beq_eq_false_iff_ne.2 h2
 have b3 : (k == 3) = false := beq_eq_false_iff_ne.2 h3
 have b4 : (k == 4) = false := beq_eq_false_iff_ne.2 h4
 have b5 : (k == 5) = false := beq_eq_false_iff_ne.2 h5
 clear h1 h2 h3 h4 h5
 go_enter Tryz.func73, Tryz.ntmps73
 go_wp2_with fail
 go_ret
 exact ⟨rfl, bel_alloc (Below.refl _ _) _⟩
set_option maxHeartbeats 2000000 in
theorem refPart_3 (n : Int) (t : ByteArray) (names : List ByteArray) (items : List JV) (an ai : Option Addr) (ncap icap : Nat) (w : World) (hts : t.size ≤ 281474976710656) (hnl : names.length ≤ 9223372036854775807) (hil : items.length ≤ 9223372036854775807) (r : Bool) (hr : Hid (goodV (.mk 3 n t names items) = r)) :
   Calls Tryz.prog 73 #[.agg #[.int .u8 3, .int .i64 n, .string t, .slice an names.length ncap, .slice ai items.length icap]] w fun e w' => e = .returned (.bool r) ∧ Below w.heap.size w w' := by
 obtain ⟨u, hu⟩ : ∃ u, writ t = u := ⟨_, rfl⟩
 have HU := Lib.hid hu
 obtain ⟨w2, hw2⟩ : ∃ x, x = w.alloc (.cells #[.int .u8 3, .int .i64 n, .string t, .slice an names.length ncap, .slice ai items.length icap] 26) := ⟨_, rfl⟩
 have hB2 : Below w.heap.size w w2 := by rw [hw2]; exact bel_alloc (Below.refl _ _) _
 have a3 : w2.cell? ⟨w.heap.size, 3, none⟩ = some (.slice an names.length ncap) := by rw [hw2, cell_al_eq _ _ _ _ _ rfl]; rfl
 have a4 : w2.cell? ⟨w.heap.size, 4, none⟩ = some (.slice ai items.length icap) := by rw [hw2, cell_al_eq _ _ _ _ _ rfl]; rfl
 have HW := Lib.hid hw2
 have hcall := refWrit_any t w2 hts u HU
 clear hw2 hu
 by_cases hn : n = 0
 · have hnb : (n == 0) = true := by rw [hn]; rfl
   have HN := Lib.hid hn
   clear hn
   go_enter Tryz.func73, Tryz.ntmps73
   go_wp2_with fail
   rw [← HW.out]
   refine hcall.mono ?_
   rintro e w3 ⟨rfl, hb3⟩
   have c3 := cell_keep hb3 a3
   have c4 := cell_keep hb3 a4
   cases u with
   | false =>
     go_wp2_with fail
     go_ret
     refine ⟨ret_bool ?_, below_more hB2 hb3⟩
     rw [← hr.out, goodV_eq]
     simp only [JV.k, properB]
     rw [HU.out]
     simp
   | true =>
     go_wp2_with fail
     all_goals
       go_ret
       refine ⟨ret_bool ?_, below_more hB2 hb3⟩
       rw [← hr.out, goodV_eq]
       simp only [JV.k, properB]
       rw [HU.out, HN.out]
       clear hr HU HW hcall c3 c4 a3 a4
       cases items <;> cases names <;> simp_all <;> omega
 · have hnb : (n == 0) = false := beq_eq_false_iff_ne.2 hn
   have hno : r = false := by
     rw [← hr.out, goodV_eq]
     simp [JV.k, properB, hn]
   have HNO := Lib.hid hno
   clear hn hno hcall
   go_enter Tryz.func73, Tryz.ntmps73
   go_wp2_with fail
   rw [← HW.out]
   go_ret
   exact ⟨ret_bool HNO.out.symm, hB2⟩
set_option maxHeartbeats 2000000 in
theorem refPart_4n (n : Int) (t : ByteArray) (an ai : Option Addr) (nl il ncap icap : Nat) (w : World) (h : (n != 0) = true) :
   Calls Tryz.prog 73 #[.agg #[.int .u8 4, .int .i64 n, .string t, .slice an nl ncap, .slice ai il icap]] w fun e w' => e = .returned (.bool false) ∧ Below w.heap.size w w' := by
 go_enter Tryz.func73, Tryz.ntmps73
 go_wp2_with fail
 go_ret
 exact ⟨rfl, bel_alloc (Below.refl _ _) _⟩
set_option maxHeartbeats 2000000 in
theorem refPart_4t (n : Int) (t : ByteArray) (an ai : Option Addr) (nl il ncap icap : Nat) (w : World) (h : (n != 0) = false) (h2 : ¬ t.toList = []) :
   Calls Tryz.prog 73 #[.agg #[.int .u8 4, .int .i64 n, .string t, .slice an nl ncap, .slice ai il icap]] w fun e w' => e = .returned (.bool false) ∧ Below w.heap.size w w' := by
 have h3 : t.toList.isEmpty = false := by cases hh : t.toList with | nil => exact absurd hh h2 | cons a b => rfl
 go_enter Tryz.func73, Tryz.ntmps73
 go_wp2_with fail
 go_ret
 exact ⟨rfl, bel_alloc (Below.refl _ _) _⟩
set_option maxHeartbeats 2000000 in
theorem refPart_4l (n : Int) (t : ByteArray) (an ai : Option Addr) (nl il ncap icap : Nat) (w : World) (h : (n != 0) = false) (h2 : t.toList = []) (h3 : 0 < nl) :
   Calls Tryz.prog 73 #[.agg #[.int .u8 4, .int .i64 n, .string t, .slice an nl ncap, .slice ai il icap]] w fun e w' => e = .returned (.bool false) ∧ Below w.heap.size w w' := by
 have h4 : (0 : Int) < (nl : Int) := by omega
 have h5 : t.toList.isEmpty = true := by rw [h2]; rfl
 go_enter Tryz.func73, Tryz.ntmps73
 go_wp2_with fail
 go_ret
 exact ⟨rfl, bel_alloc (Below.refl _ _) _⟩
set_option maxHeartbeats 2000000 in
theorem refPart_5n (n : Int) (t : ByteArray) (an ai : Option Addr) (nl il ncap icap : Nat) (w : World) (h : (n != 0) = true) :
   Calls Tryz.prog 73 #[.agg #[.int .u8 5, .int .i64 n, .string t, .slice an nl ncap, .slice ai il icap]] w fun e w' => e = .returned (.bool false) ∧ Below w.heap.size w w' := by
 go_enter Tryz.func73, Tryz.ntmps73
 go_wp2_with fail
 go_ret
 exact ⟨rfl, bel_alloc (Below.refl _ _) _⟩
set_option maxHeartbeats 2000000 in
theorem refPart_5t (n : Int) (t : ByteArray) (an ai : Option Addr) (nl il ncap icap : Nat) (w : World) (h : (n != 0) = false) (h2 : ¬ t.toList = []) :
   Calls Tryz.prog 73 #[.agg #[.int .u8 5, .int .i64 n, .string t, .slice an nl ncap, .slice ai il icap]] w fun e w' => e = .returned (.bool false) ∧ Below w.heap.size w w' := by
 have h3 : t.toList.isEmpty = false := by cases hh : t.toList with | nil => exact absurd hh h2 | cons a b => rfl
 go_enter Tryz.func73, Tryz.ntmps73
 go_wp2_with fail
 go_ret
 exact ⟨rfl, bel_alloc (Below.refl _ _) _⟩
set_option maxHeartbeats 2000000 in
theorem refPart_5l (n : Int) (t : ByteArray) (an ai : Option Addr) (nl il ncap icap : Nat) (w : World) (h : (n != 0) = false) (h2 : t.toList = []) (h3 : ¬ nl = il) :
   Calls Tryz.prog 73 #[.agg #[.int .u8 5, .int .i64 n, .string t, .slice an nl ncap, .slice ai il icap]] w fun e w' => e = .returned (.bool false) ∧ Below w.heap.size w w' := by
 have h4 : ((nl : Int) != (il : Int)) = true := by simp; omega
 have h5 : t.toList.isEmpty = true := by rw [h2]; rfl
 clear h3
 go_enter Tryz.func73, Tryz.ntmps73
 go_wp2_with fail
 go_ret
 exact ⟨rfl, bel_alloc (Below.refl _ _) _⟩
end

section
set_option maxRecDepth 100000
open Go.RowKit
theorem goodVs_app (a b : List JV) : goodVs (a ++ b) = (goodVs a && goodVs b) := by
 induction a with
 | nil => simp [goodVs]
 | cons x r ih => simp only [List.cons_append, goodVs, ih, Bool.and_assoc]
theorem goodVs_step {l : List JV} {j : Nat} {x : JV} (h : l[j]? = some x) (ha : goodVs (l.take j) = true) (hx : goodV x = true) : goodVs (l.take (j + 1)) = true := by
 rw [List.take_add_one, h, goodVs_app, ha]; simp [goodVs, hx]
theorem goodVs_no {l : List JV} {j : Nat} {x : JV} (h : l[j]? = some x) (hx : goodV x = false) : goodVs l = false := by
 cases hh : goodVs l with
 | false => rfl
 | true => have := goodVs_mem hh x (List.mem_of_getElem? h); rw [hx] at this; cases this
set_option maxHeartbeats 4000000 in
theorem refPart_4go (n : Int) (t : ByteArray) (names : List ByteArray) (items : List JV) (vn vi : Value) (w : World) (hns : StrsAt w vn names) (his : ItemsAt w vi items) (hn : (n != 0) = false) (ht : t.toList = []) (hl : names.length = 0) (hnm : ∀ s ∈ names, s.size ≤ 281474976710656)
   (ih : ∀ (x : JV) (a : Value) (wr : World), x ∈ items → ValAt wr x a → Calls Tryz.prog 73 #[a] wr fun e w' => e = .returned (.bool (goodV x)) ∧ Below wr.heap.size wr w')
   (r : Bool) (hr : Hid ((ascB names && names.all writ && goodVs items) = r)) :
   Calls Tryz.prog 73 #[.agg #[.int .u8 4, .int .i64 n, .string t, vn, vi]] w fun e w' => e = .returned (.bool r) ∧ Below w.heap.size w w' := by
 have HIs := Lib.hid his
 have HNs := Lib.hid hns
 obtain ⟨ai, icap, rfl, hI1, -⟩ := his.parts
 obtain ⟨an, ncap, rfl, hN1, -, hnc⟩ := hns.parts
 obtain ⟨il, e2⟩ : ∃ x, items.length = x := ⟨_, rfl⟩
 obtain ⟨nl, e1⟩ : ∃ x, names.length = x := ⟨_, rfl⟩
 rw [e2] at hI1 HIs ⊢
 rw [e1] at hN1 HNs ⊢
 rw [e1] at hl
 subst hl
 have HE2 := Lib.hid e2
 have HE1 := Lib.hid e1
 have HNC := Lib.hid hnc
 have HNM := Lib.hid hnm
 have HIH := Lib.hid ih
 clear e1 e2 his hns hnc hnm ih
 have hte : t.toList.isEmpty = true := by rw [ht]; rfl
 obtain ⟨w2, hw2⟩ : ∃ x, x = w.alloc (.cells #[.int .u8 4, .int .i64 n, .string t, .slice an 0 ncap, .slice ai il icap] 26) := ⟨_, rfl⟩
 have hB2 : Below w.heap.size w w2 := by rw [hw2]; exact bel_alloc (Below.refl _ _) _
 have a3 : w2.cell? ⟨w.heap.size, 3, none⟩ = some (.slice an 0 ncap) := by rw [hw2, cell_al_eq _ _ _ _ _ rfl]; rfl
 have a4 : w2.cell? ⟨w.heap.size, 4, none⟩ = some (.slice ai il icap) := by rw [hw2, cell_al_eq _ _ _ _ _ rfl]; rfl
 have HW := Lib.hid hw2
 have hcall := refRise_any names _ w2 (HNs.out.keep hB2)
 obtain ⟨A, hA⟩ : ∃ A, ascB names = A := ⟨_, rfl⟩
 rw [hA] at hcall
 have HA := Lib.hid hA
 have HC := Lib.hid hcall
 clear hw2 hA hcall
 go_enter Tryz.func73, Tryz.ntmps73
 go_wp2_with fail
 rw [← HW.out]
 refine HC.out.mono ?_
 rintro e w3 ⟨rfl, hb3⟩
 have a3 := cell_keep hb3 a3
 have a4 := cell_keep hb3 a4
 have hB3 := below_more hB2 hb3
 cases A with
 | false =>
   obtain rfl : r = false := by rw [← hr.out, HA.out]; rfl
   go_wp2_with fail
   go_ret
   exact ⟨rfl, hB3⟩
 | true =>
   go_wp2_with fail
   go_loopw [3] (fun i wr => ∃ j : Nat, j ≤ 0 ∧ i = .int .i64 j ∧ Hid ((names.take j).all writ = true) ∧ Below w3.heap.size w3 wr) (fun i _ => 0 - (intOf i).toNat)
   case atStart => exact ⟨0, by omega, rfl, by simp [Hid], Below.refl _ _⟩
   case round =>
     obtain ⟨j, hj, rfl, HT, hbr⟩ := hrel
     have c3 := cell_keep hbr a3
     have c4 := cell_keep hbr a4
     by_cases hjl : j < 0
     · exact absurd hjl (by omega)
     · have hall : names.all writ = true := by
         have := HT.out
         rwa [List.take_of_length_le (by rw [HE1.out]; omega)] at this
       have HALL := Lib.hid hall
       clear hall HT HNC
       go_wp2_with fail
       go_loopw [4] (fun i wr => ∃ j : Nat, j ≤ il ∧ i = .int .i64 j ∧ Hid (goodVs (items.take j) = true) ∧ Below w3.heap.size w3 wr) (fun i _ => il - (intOf i).toNat)
       case atStart => exact ⟨0, by omega, rfl, by simp [Hid, goodVs], hbr⟩
       case round =>
         obtain ⟨j, hj, rfl, HT, hbr⟩ := hrel
         have c4 := cell_keep hbr a4
         by_cases hjl : j < il
         · obtain ⟨x, hx⟩ : ∃ x, items[j]? = some x := ⟨_, List.getElem?_eq_getElem (by rw [HE2.out]; exact hjl)⟩
           obtain ⟨_, _, e', -, hpart⟩ := (HIs.out.keep (below_more hB3 hbr)).parts
           simp only [Value.slice.injEq] at e'
           obtain ⟨rfl, -, rfl⟩ := e'
           obtain ⟨xb, xo, xn, xi, rfl, x0, x1, x2, x3, x4, q⟩ := hpart j x hx
           have hvx := valAt_iff.2 ⟨xn, xi, rfl, q⟩
           obtain ⟨-, -, -, -, -, q1, q2⟩ := q
           obtain ⟨xi1, xi2, rfl, -, -⟩ := q2.parts
           obtain ⟨xn1, xn2, rfl, -, -, -⟩ := q1.parts
           obtain ⟨u, hu⟩ : ∃ u, goodV x = u := ⟨_, rfl⟩
           have hct := HIH.out x _ wr (List.mem_of_getElem? hx) hvx
           rw [hu] at hct
           have HU := Lib.hid hu
           have HX := Lib.hid hx
           have HCT := Lib.hid hct
           have hj0 : (0 : Int) ≤ (j : Int) := by omega
           have hj1 : (j : Int) < (il : Int) := by omega
           clear hu hx hct hpart q1 q2 hvx
           go_wp2_with fail
           refine HCT.out.mono ?_
           rintro e w4 ⟨rfl, hb4⟩
           cases u with
           | true =>
             go_wp2_with fail
             refine ⟨⟨j + 1, by omega, by go_num, ?_, below_more hbr hb4⟩, by simp [intOf]; omega⟩
             exact goodVs_step HX.out HT.out HU.out
           | false =>
             obtain rfl : r = false := by rw [← hr.out, goodVs_no HX.out HU.out, Bool.and_false]
             go_wp2_with fail
             go_ret
             exact ⟨rfl, below_more (below_more hB3 hbr) hb4⟩
         · have hall : goodVs items = true := by
             have := HT.out
             rwa [List.take_of_length_le (by rw [HE2.out]; omega)] at this
           obtain rfl : r = true := by rw [← hr.out, HA.out, HALL.out, hall]; rfl
           clear hall
           go_wp2_with fail
           go_ret
           exact ⟨rfl, below_more hB3 hbr⟩
set_option maxHeartbeats 4000000 in
theorem refPart_5go (n : Int) (t : ByteArray) (names : List ByteArray) (items : List JV) (vn vi : Value) (w : World) (hns : StrsAt w vn names) (his : ItemsAt w vi items) (hn : (n != 0) = false) (ht : t.toList = []) (hl : names.length = items.length) (hnm : ∀ s ∈ names, s.size ≤ 281474976710656)
   (ih : ∀ (x : JV) (a : Value) (wr : World), x ∈ items → ValAt wr x a → Calls Tryz.prog 73 #[a] wr fun e w' => e = .returned (.bool (goodV x)) ∧ Below wr.heap.size wr w')
   (r : Bool) (hr : Hid ((ascB names && names.all writ && goodVs items) = r)) :
   Calls Tryz.prog 73 #[.agg #[.int .u8 5, .int .i64 n, .string t, vn, vi]] w fun e w' => e = .returned (.bool r) ∧ Below w.heap.size w w' := by
 have HIs := Lib.hid his
 have HNs := Lib.hid hns
 obtain ⟨ai, icap, rfl, hI1, -⟩ := his.parts
 obtain ⟨an, ncap, rfl, hN1, -, hnc⟩ := hns.parts
 obtain ⟨il, e2⟩ : ∃ x, items.length = x := ⟨_, rfl⟩
 obtain ⟨nl, e1⟩ : ∃ x, names.length = x := ⟨_, rfl⟩
 rw [e2] at hI1 HIs ⊢
 rw [e1] at hN1 HNs ⊢
 rw [e1] at hl
 rw [e2] at hl
 have HE2 := Lib.hid e2
 have HE1 := Lib.hid e1
 have HL := Lib.hid hl
 have HNC := Lib.hid hnc
 have HNM := Lib.hid hnm
 have HIH := Lib.hid ih
 clear e1 e2 his hns hl hnc hnm ih
 have hte : t.toList.isEmpty = true := by rw [ht]; rfl
 have hl0 : ((nl : Int) != (il : Int)) = false := by have := HL.out; simp; omega
 obtain ⟨w2, hw2⟩ : ∃ x, x = w.alloc (.cells #[.int .u8 5, .int .i64 n, .string t, .slice an nl ncap, .slice ai il icap] 26) := ⟨_, rfl⟩
 have hB2 : Below w.heap.size w w2 := by rw [hw2]; exact bel_alloc (Below.refl _ _) _
 have a3 : w2.cell? ⟨w.heap.size, 3, none⟩ = some (.slice an nl ncap) := by rw [hw2, cell_al_eq _ _ _ _ _ rfl]; rfl
 have a4 : w2.cell? ⟨w.heap.size, 4, none⟩ = some (.slice ai il icap) := by rw [hw2, cell_al_eq _ _ _ _ _ rfl]; rfl
 have HW := Lib.hid hw2
 have hcall := refRise_any names _ w2 (HNs.out.keep hB2)
 obtain ⟨A, hA⟩ : ∃ A, ascB names = A := ⟨_, rfl⟩
 rw [hA] at hcall
 have HA := Lib.hid hA
 have HC := Lib.hid hcall
 clear hw2 hA hcall
 go_enter Tryz.func73, Tryz.ntmps73
 go_wp2_with fail
 rw [← HW.out]
 refine HC.out.mono ?_
 rintro e w3 ⟨rfl, hb3⟩
 have a3 := cell_keep hb3 a3
 have a4 := cell_keep hb3 a4
 have hB3 := below_more hB2 hb3
 cases A with
 | false =>
   obtain rfl : r = false := by rw [← hr.out, HA.out]; rfl
   go_wp2_with fail
   go_ret
   exact ⟨rfl, hB3⟩
 | true =>
   go_wp2_with fail
   go_loopw [3] (fun i wr => ∃ j : Nat, j ≤ nl ∧ i = .int .i64 j ∧ Hid ((names.take j).all writ = true) ∧ Below w3.heap.size w3 wr) (fun i _ => nl - (intOf i).toNat)
   case atStart => exact ⟨0, by omega, rfl, by simp [Hid], Below.refl _ _⟩
   case round =>
     obtain ⟨j, hj, rfl, HT, hbr⟩ := hrel
     have c3 := cell_keep hbr a3
     have c4 := cell_keep hbr a4
     by_cases hjl : j < nl
     · obtain ⟨s, hs⟩ : ∃ x, names[j]? = some x := ⟨_, List.getElem?_eq_getElem (by rw [HE1.out]; exact hjl)⟩
       obtain ⟨nb, no_, rfl, hcell⟩ := HNC.out j s hs
       have hcell2 := cell_keep (below_more hB3 hbr) hcell
       obtain ⟨u, hu⟩ : ∃ u, writ s = u := ⟨_, rfl⟩
       have hct := refWrit_any s wr (HNM.out s (List.mem_of_getElem? hs)) u hu
       have HU := Lib.hid hu
       have HS := Lib.hid hs
       have HCT := Lib.hid hct
       have hj0 : (0 : Int) ≤ (j : Int) := by omega
       have hj1 : (j : Int) < (nl : Int) := by omega
       clear hu hs hct hcell
       go_wp2_with fail
       refine HCT.out.mono ?_
       rintro e w4 ⟨rfl, hb4⟩
       cases u with
       | true =>
         go_wp2_with fail
         refine ⟨⟨j + 1, by omega, by go_num, ?_, below_more hbr hb4⟩, by simp [intOf]; omega⟩
         exact all_step HS.out HT.out HU.out
       | false =>
         obtain rfl : r = false := by rw [← hr.out, all_no HS.out HU.out]; simp
         go_wp2_with fail
         go_ret
         exact ⟨rfl, below_more (below_more hB3 hbr) hb4⟩
     · have hall : names.all writ = true := by
         have := HT.out
         rwa [List.take_of_length_le (by rw [HE1.out]; omega)] at this
       have HALL := Lib.hid hall
       clear hall HT HNC
       go_wp2_with fail
       go_loopw [4] (fun i wr => ∃ j : Nat, j ≤ il ∧ i = .int .i64 j ∧ Hid (goodVs (items.take j) = true) ∧ Below w3.heap.size w3 wr) (fun i _ => il - (intOf i).toNat)
       case atStart => exact ⟨0, by omega, rfl, by simp [Hid, goodVs], hbr⟩
       case round =>
         obtain ⟨j, hj, rfl, HT, hbr⟩ := hrel
         have c4 := cell_keep hbr a4
         by_cases hjl : j < il
         · obtain ⟨x, hx⟩ : ∃ x, items[j]? = some x := ⟨_, List.getElem?_eq_getElem (by rw [HE2.out]; exact hjl)⟩
           obtain ⟨_, _, e', -, hpart⟩ := (HIs.out.keep (below_more hB3 hbr)).parts
           simp only [Value.slice.injEq] at e'
           obtain ⟨rfl, -, rfl⟩ := e'
           obtain ⟨xb, xo, xn, xi, rfl, x0, x1, x2, x3, x4, q⟩ := hpart j x hx
           have hvx := valAt_iff.2 ⟨xn, xi, rfl, q⟩
           obtain ⟨-, -, -, -, -, q1, q2⟩ := q
           obtain ⟨xi1, xi2, rfl, -, -⟩ := q2.parts
           obtain ⟨xn1, xn2, rfl, -, -, -⟩ := q1.parts
           obtain ⟨u, hu⟩ : ∃ u, goodV x = u := ⟨_, rfl⟩
           have hct := HIH.out x _ wr (List.mem_of_getElem? hx) hvx
           rw [hu] at hct
           have HU := Lib.hid hu
           have HX := Lib.hid hx
           have HCT := Lib.hid hct
           have hj0 : (0 : Int) ≤ (j : Int) := by omega
           have hj1 : (j : Int) < (il : Int) := by omega
           clear hu hx hct hpart q1 q2 hvx
           go_wp2_with fail
           refine HCT.out.mono ?_
           rintro e w4 ⟨rfl, hb4⟩
           cases u with
           | true =>
             go_wp2_with fail
             refine ⟨⟨j + 1, by omega, by go_num, ?_, below_more hbr hb4⟩, by simp [intOf]; omega⟩
             exact goodVs_step HX.out HT.out HU.out
           | false =>
             obtain rfl : r = false := by rw [← hr.out, goodVs_no HX.out HU.out, Bool.and_false]
             go_wp2_with fail
             go_ret
             exact ⟨rfl, below_more (below_more hB3 hbr) hb4⟩
         · have hall : goodVs items = true := by
             have := HT.out
             rwa [List.take_of_length_le (by rw [HE2.out]; omega)] at this
           obtain rfl : r = true := by rw [← hr.out, HA.out, HALL.out, hall]; rfl
           clear hall
           go_wp2_with fail
           go_ret
           exact ⟨rfl, below_more hB3 hbr⟩
theorem wtN_mem : ∀ {l : List ByteArray} {s : ByteArray}, s ∈ l → s.size ≤ wtN l
 | x :: r, s, h => by
   have e : wtN (x :: r) = (2 + x.size) + wtN r := by simp [wtN]
   rw [e]
   rcases List.mem_cons.1 h with rfl | h
   · omega
   · have := wtN_mem h; omega
theorem wtL_mem : ∀ {l : List JV} {x : JV}, x ∈ l → wt x ≤ wtL l
 | y :: r, x, h => by
   rw [wtL]
   rcases List.mem_cons.1 h with rfl | h
   · omega
   · have := wtL_mem h; omega
mutual
theorem count_wt : ∀ V : JV, countV V ≤ wt V
 | .mk k n t names items => by
   rw [countV, wt_eq]
   have := count_wtL items
   simp only [JV.items]
   omega
theorem count_wtL : ∀ l : List JV, countL l ≤ wtL l
 | [] => by rw [countL, wtL]; omega
 | x :: r => by
   rw [countL, wtL]
   have := count_wt x
   have := count_wtL r
   omega
end
theorem refPart_fuel (N : Nat) : ∀ (V : JV) (v : Value) (w : World), SizeOf.sizeOf V < N → ValAt w V v → wt V ≤ 1000000000 →
   Calls Tryz.prog 73 #[v] w fun e w' => e = .returned (.bool (goodV V)) ∧ Below w.heap.size w w' := by
 induction N with
 | zero => intro V v w h; omega
 | succ N ih =>
   intro V v w hN hV hwt
   obtain ⟨vn, vi, rfl, k0, k1, n0, n1, ht, hns, his⟩ := valAt_iff.1 hV
   have hw := wt_eq V
   have hsub : ∀ (x : JV) (a : Value) (wr : World), x ∈ V.items → ValAt wr x a → Calls Tryz.prog 73 #[a] wr fun e w' => e = .returned (.bool (goodV x)) ∧ Below wr.heap.size wr w' := by
     intro x a wr hx ha
     have h1 := JV.size_item hx
     have h2 := wtL_mem hx
     exact ih x a wr (by omega) ha (by omega)
   have hnm : ∀ s ∈ V.names, s.size ≤ 281474976710656 := fun s hs => by have := wtN_mem hs; omega
   clear ih hN hV
   obtain ⟨k, n, t, names, items⟩ := V
   simp only [JV.k, JV.n, JV.t, JV.names, JV.items] at *
   obtain ⟨ai, icap, rfl, hI1, -⟩ := his.parts
   obtain ⟨an, ncap, rfl, hN1, -, -⟩ := hns.parts
   by_cases h1 : k = 1
   · subst h1; exact refPart_1 n t names items an ai ncap icap w hN1 hI1 _ rfl
   by_cases h2 : k = 2
   · subst h2; exact refPart_2 n t names items an ai ncap icap w hN1 hI1 _ rfl
   by_cases h3 : k = 3
   · subst h3; exact refPart_3 n t names items an ai ncap icap w (by omega) hN1 hI1 _ rfl
   by_cases h4 : k = 4
   · subst h4
     have hg : goodV (.mk 4 n t names items) = (properB (.mk 4 n t names items) && goodVs items) := by rw [goodV_eq]; rfl
     rw [hg]
     by_cases hn : n = 0
     · by_cases htl : t.toList = []
       · by_cases hnl : 0 < names.length
         · rw [show properB (.mk 4 n t names items) = false by simp [properB, hnl], Bool.false_and]
           exact refPart_4l n t an ai _ _ ncap icap w (by simp [hn]) htl hnl
         · obtain rfl : names = [] := List.length_eq_zero_iff.1 (by omega)
           have hp : properB (.mk 4 n t [] items) = true := by simp [properB, hn, htl]
           rw [hp]
           exact refPart_4go n t [] items _ _ w hns his (by simp [hn]) htl rfl hnm hsub _ (by simp [Hid, ascB])
       · rw [show properB (.mk 4 n t names items) = false by simp [properB, htl], Bool.false_and]
         exact refPart_4t n t an ai _ _ ncap icap w (by simp [hn]) htl
     · rw [show properB (.mk 4 n t names items) = false by simp [properB, hn], Bool.false_and]
       exact refPart_4n n t an ai _ _ ncap icap w (by simp [hn])
   by_cases h5 : k = 5
   · subst h5
     have hg : goodV (.mk 5 n t names items) = (properB (.mk 5 n t names items) && goodVs items) := by rw [goodV_eq]; rfl
     rw [hg]
     by_cases hn : n = 0
     · by_cases htl : t.toList = []
       · by_cases hnl : names.length = items.length
         · have hp : properB (.mk 5 n t names items) = (ascB names && names.all writ) := by simp [properB, hn, htl, hnl]
           rw [hp]
           exact refPart_5go n t names items _ _ w hns his (by simp [hn]) htl hnl hnm hsub _ rfl
         · rw [show properB (.mk 5 n t names items) = false by simp [properB, hnl], Bool.false_and]
           exact refPart_5l n t an ai _ _ ncap icap w (by simp [hn]) htl hnl
       · rw [show properB (.mk 5 n t names items) = false by simp [properB, htl], Bool.false_and]
         exact refPart_5t n t an ai _ _ ncap icap w (by simp [hn]) htl
     · rw [show properB (.mk 5 n t names items) = false by simp [properB, hn], Bool.false_and]
       exact refPart_5n n t an ai _ _ ncap icap w (by simp [hn])
   have hg : goodV (.mk k n t names items) = false := by
     rw [goodV_eq]
     simp [properB, h1, h2, h3, h4, h5]
   rw [hg]
   exact refPart_0 k n t an ai _ _ ncap icap w h1 h2 h3 h4 h5
set_option maxHeartbeats 2000000 in
theorem refMay_any (V : JV) (v : Value) (w : World) (h : ValAt w V v) (hwt : wt V ≤ 1000000000) (r : Bool) (hr : Hid (mayB V = r)) :
   Calls Tryz.prog 36 #[v] w fun e w' => e = .returned (.bool r) ∧ Below w.heap.size w w' := by
 obtain ⟨vn, vi, rfl, k0, k1, n0, n1, ht, hns, his⟩ := valAt_iff.1 h
 obtain ⟨ai, icap, rfl, -, -⟩ := his.parts
 obtain ⟨an, ncap, rfl, -, -, -⟩ := hns.parts
 have hcv := count_wt V
 have hdc := depth_count V
 obtain ⟨w2, hw2⟩ : ∃ x, x = w.alloc (.cells #[.int .u8 V.k, .int .i64 V.n, .string V.t, .slice an V.names.length ncap, .slice ai V.items.length icap] 26) := ⟨_, rfl⟩
 have hB2 : Below w.heap.size w w2 := by rw [hw2]; exact bel_alloc (Below.refl _ _) _
 have a0 : w2.cell? ⟨w.heap.size, 0, none⟩ = some (.int .u8 V.k) := by rw [hw2, cell_al_eq _ _ _ _ _ rfl]; rfl
 have a1 : w2.cell? ⟨w.heap.size, 1, none⟩ = some (.int .i64 V.n) := by rw [hw2, cell_al_eq _ _ _ _ _ rfl]; rfl
 have a2 : w2.cell? ⟨w.heap.size, 2, none⟩ = some (.string V.t) := by rw [hw2, cell_al_eq _ _ _ _ _ rfl]; rfl
 have a3 : w2.cell? ⟨w.heap.size, 3, none⟩ = some (.slice an V.names.length ncap) := by rw [hw2, cell_al_eq _ _ _ _ _ rfl]; rfl
 have a4 : w2.cell? ⟨w.heap.size, 4, none⟩ = some (.slice ai V.items.length icap) := by rw [hw2, cell_al_eq _ _ _ _ _ rfl]; rfl
 have hV2 := Lib.hid (h.keep hB2)
 have HW := Lib.hid hw2
 have hcall := refPart_fuel _ V _ w2 (Nat.lt_succ_self _) hV2.out hwt
 obtain ⟨g, hg⟩ : ∃ g, goodV V = g := ⟨_, rfl⟩
 rw [hg] at hcall
 have HG := Lib.hid hg
 have HC := Lib.hid hcall
 clear hw2 h hns his hcall hg
 have hrr : r = (g && (decide (countV V ≤ 8192) && decide (depthV V ≤ 12))) := by
   rw [← hr.out, Bool.eq_iff_iff, mayB_iff, HG.out]
   simp only [Bool.and_eq_true, decide_eq_true_eq]
   constructor
   · rintro ⟨x, y, z⟩; exact ⟨x, z, y⟩
   · rintro ⟨x, z, y⟩; exact ⟨x, y, z⟩
 have HRR := Lib.hid hrr
 clear hrr hr
 go_enter Tryz.func36, Tryz.ntmps36
 go_wp2_with fail
 rw [← HW.out]
 refine HC.out.mono ?_
 rintro e w3 ⟨rfl, hb3⟩
 cases g with
 | false =>
   go_wp2_with fail
   go_ret
   exact ⟨ret_bool (by rw [HRR.out]; rfl), below_more hB2 hb3⟩
 | true =>
   have a0 := cell_keep hb3 a0
   have a1 := cell_keep hb3 a1
   have a2 := cell_keep hb3 a2
   have a3 := cell_keep hb3 a3
   have a4 := cell_keep hb3 a4
   have hV3 := Lib.hid (hV2.out.keep hb3)
   go_wp2_with fail
   refine (refCount_any _ V _ _ (Nat.lt_succ_self _) hV3.out (by omega)).mono ?_
   rintro e w4 ⟨rfl, hb4⟩
   have a0 := cell_keep hb4 a0
   have a1 := cell_keep hb4 a1
   have a2 := cell_keep hb4 a2
   have a3 := cell_keep hb4 a3
   have a4 := cell_keep hb4 a4
   have hV4 := Lib.hid (hV3.out.keep hb4)
   by_cases hc : countV V ≤ 8192
   · have hci : (countV V : Int) ≤ 8192 := by omega
     go_wp2_with fail
     refine (refDepth_any _ V _ _ (Nat.lt_succ_self _) hV4.out (by omega)).mono ?_
     rintro e w5 ⟨rfl, hb5⟩
     go_wp2_with fail
     go_ret
     refine ⟨ret_bool ?_, below_more (below_more (below_more hB2 hb3) hb4) hb5⟩
     rw [HRR.out, decide_eq_true hc, Bool.true_and, Bool.true_and, Bool.eq_iff_iff, decide_eq_true_eq, decide_eq_true_eq]
     omega
   · have hci : ¬ (countV V : Int) ≤ 8192 := by omega
     go_wp2_with fail
     go_ret
     exact ⟨ret_bool (by rw [HRR.out, decide_eq_false hc]; rfl), below_more (below_more hB2 hb3) hb4⟩
end

section
open Go.RowKit
/-! Rows of signatures. -/
def sgCells (l : List SigP) : List Value := l.flatMap fun s => [.string s.1, .string s.2]
theorem sgCells_snoc (l : List SigP) (s : SigP) : sgCells (l ++ [s]) = sgCells l ++ [.string s.1, .string s.2] := by simp [sgCells]
theorem sgCells_get : ∀ (l : List SigP) (i : Nat) (s : SigP), l[i]? = some s → (sgCells l)[i * 2]? = some (.string s.1) ∧ (sgCells l)[i * 2 + 1]? = some (.string s.2)
 | [], i, s, h => by simp at h
 | y :: r, 0, s, h => by
   simp at h; subst h
   exact ⟨rfl, rfl⟩
 | y :: r, i + 1, s, h => by
   have h1 := sgCells_get r i s (by simpa using h)
   show ([Value.string y.1, .string y.2] ++ sgCells r)[(i + 1) * 2]? = _ ∧ ([Value.string y.1, .string y.2] ++ sgCells r)[(i + 1) * 2 + 1]? = _
   rw [List.getElem?_append_right (by simp; omega), List.getElem?_append_right (by simp; omega)]
   simp only [List.length_cons, List.length_nil]
   rw [show (i + 1) * 2 - (0 + 1 + 1) = i * 2 by omega, show (i + 1) * 2 + 1 - (0 + 1 + 1) = i * 2 + 1 by omega]
   exact h1
def SigsAt (w : World) (sv : Value) (l : List SigP) : Prop := ∃ a c, sv = .slice a l.length c ∧ ∀ i s, l[i]? = some s → ∃ b o, a = some ⟨b, o, none⟩ ∧ w.cell? ⟨b, o + i * 2, none⟩ = some (.string s.1) ∧ w.cell? ⟨b, o + i * 2 + 1, none⟩ = some (.string s.2)
theorem SigsAt.keep {w w' : World} {sv : Value} {l : List SigP} (h : SigsAt w sv l) (hb : Below w.heap.size w w') : SigsAt w' sv l := by
 obtain ⟨a, c, rfl, hc⟩ := h
 refine ⟨a, c, rfl, fun i s hs => ?_⟩
 obtain ⟨b, o, e, h1, h2⟩ := hc i s hs
 exact ⟨b, o, e, cell_keep hb h1, cell_keep hb h2⟩
theorem SigsAt.imp {w w' : World} {sv : Value} {l : List SigP} (h : SigsAt w sv l) (hc : ∀ p u, w.cell? p = some u → w'.cell? p = some u) : SigsAt w' sv l := by
 obtain ⟨a, c, rfl, h'⟩ := h
 refine ⟨a, c, rfl, fun i s hs => ?_⟩
 obtain ⟨b, o, e, h1, h2⟩ := h' i s hs
 exact ⟨b, o, e, hc _ _ h1, hc _ _ h2⟩
theorem sigsAt_own {w : World} {C B : Nat} {v : Value} {l : List SigP} (h : w.ownsRow B 43 2 v l.length (sgCells l)) (hB : C ≤ B) : SigsAt (hidden (offB C none) w) v l := by
 have h' := h
 rcases h.2 with ⟨rfl, h0⟩ | ⟨g, cap, cur, rfl, hg, hcl, _⟩
 · exact ⟨none, 0, by rw [h0], fun i s hs => by rw [List.length_eq_zero_iff.1 h0] at hs; simp at hs⟩
 · refine ⟨_, _, rfl, fun i s hs => ⟨g, 0, rfl, ?_⟩⟩
   have hadd : ∀ j, (⟨g, 0, none⟩ : Addr).add j = ⟨g, j, none⟩ := fun j => by unfold Addr.add; split <;> simp_all
   obtain ⟨h1, h2⟩ := sgCells_get l i s hs
   rw [Nat.zero_add]
   have k1 := World.ownsRow.cells h' (g := g) rfl _ _ h1
   have k2 := World.ownsRow.cells h' (g := g) rfl _ _ h2
   rw [hadd] at k1 k2
   exact ⟨(hidden_cell _ _ _ _).2 ⟨offB_none.2 (Nat.le_trans hB hg), ⟨_, _, hcl⟩, k1⟩, (hidden_cell _ _ _ _).2 ⟨offB_none.2 (Nat.le_trans hB hg), ⟨_, _, hcl⟩, k2⟩⟩
def zEnv : Value := .agg #[.int .u8 0, .int .i64 0, .string ⟨#[]⟩, .slice none 0 0, .slice none 0 0, .slice none 0 0]
def envVal (y : VC) (a : Option Addr) (n c : Nat) : Value := .agg #[.int .u8 y.k, .int .i64 y.n, .string y.t, .slice y.a y.l y.c, .slice y.b y.m y.e, .slice a n c]
def EnvPostD (Q : World) (R : PQ (List SigP × JV)) (w : World) (e : Ending) (w' : World) : Prop :=
 Below w.heap.size w w' ∧ match R with
   | .bad er => e = .returned (.tuple #[zEnv, .int .i64 er]) ∧ er ≠ 0
   | .ok x => ∃ (y : VC) (a : Option Addr) (c : Nat), e = .returned (.tuple #[envVal y a x.1.length c, .int .i64 0]) ∧ ValAt Q x.2 y.val ∧ SigsAt (hidden (offB w.heap.size none) w') (.slice a x.1.length c) x.1
def EnvPost (R : PQ (List SigP × JV)) (w : World) (e : Ending) (w' : World) : Prop :=
 Below w.heap.size w w' ∧ match R with
   | .bad er => e = .returned (.tuple #[zEnv, .int .i64 er]) ∧ er ≠ 0
   | .ok x => ∃ (y : VC) (a : Option Addr) (c : Nat), e = .returned (.tuple #[envVal y a x.1.length c, .int .i64 0]) ∧ ValAt (hidden (offB w.heap.size none) w') x.2 y.val ∧ SigsAt (hidden (offB w.heap.size none) w') (.slice a x.1.length c) x.1
/-! Plainly. -/
theorem sigV_ne {V : JV} {e : Int} (h : sigV V = .bad e) : e ≠ 0 := by
 unfold sigV at h
 simp only at h
 split at h
 · next hd => cases h; exact hd
 · split at h
   · cases h
   · cases h; decide
theorem sigs_more {l : List JV} {j : Nat} {y : JV} {s : SigP} (hy : l[j]? = some y) (hs : sigV y = .ok s) (h : (sigsV (l.take j)).2 = 0) : (sigsV (l.take (j + 1))).2 = 0 ∧ (sigsV (l.take (j + 1))).1 = (sigsV (l.take j)).1 ++ [s] := by
 induction l generalizing j with
 | nil => simp at hy
 | cons x r ih =>
   cases j with
   | zero =>
     simp only [List.getElem?_cons_zero, Option.some.injEq] at hy
     subst hy
     simp [sigsV, hs]
   | succ j =>
     rw [List.take_succ_cons] at h ⊢
     rw [List.take_succ_cons]
     rw [sigsV] at h ⊢
     rw [sigsV]
     cases hx : sigV x with
     | bad e => rw [hx] at h; exact absurd h (sigV_ne hx)
     | ok t =>
       rw [hx] at h
       have := ih (j := j) (by simpa using hy) h
       exact ⟨this.1, by simp only [this.2, List.cons_append]⟩
theorem sigs_bad {l : List JV} {j : Nat} {y : JV} {e : Int} (hy : l[j]? = some y) (hs : sigV y = .bad e) (h : (sigsV (l.take j)).2 = 0) : (sigsV l).2 = e := by
 induction l generalizing j with
 | nil => simp at hy
 | cons x r ih =>
   cases j with
   | zero =>
     simp only [List.getElem?_cons_zero, Option.some.injEq] at hy
     subst hy
     simp [sigsV, hs]
   | succ j =>
     rw [List.take_succ_cons, sigsV] at h
     rw [sigsV]
     cases hx : sigV x with
     | bad e => rw [hx] at h; exact absurd h (sigV_ne hx)
     | ok t =>
       rw [hx] at h
       exact ih (j := j) (by simpa using hy) h
theorem list_ok {V : JV} {nm : ByteArray} {most : Nat} {s s' : PS} {l : List JV} (h : listQ V nm most s = (l, s')) : (∃ e, s' = .bad e ∧ l = []) ∨ ∃ B y, s = .ok B ∧ s' = .ok (B ++ [nm]) ∧ y ∈ V.items ∧ y.k = 4 ∧ l = y.items ∧ l.length ≤ most := by
 obtain ⟨R, s1, hR⟩ : ∃ R s1, takeQ V nm 4 s = (R, s1) := ⟨_, _, rfl⟩
 rw [listQ, hR] at h
 cases R with
 | none =>
   cases h
   left
   cases s with
   | bad e => rw [takeQ] at hR; cases hR; exact ⟨_, rfl, rfl⟩
   | ok A =>
     rw [takeQ] at hR
     split at hR
     · cases hR; exact ⟨_, rfl, rfl⟩
     · split at hR
       · cases hR
       · cases hR; exact ⟨_, rfl, rfl⟩
 | some y =>
   simp only at h
   obtain ⟨A, h1, h2⟩ := takeQ_some hR
   obtain ⟨h3, h4⟩ := takeQ_mem hR
   split at h
   · cases h; exact Or.inl ⟨_, rfl, rfl⟩
   · cases h
     exact Or.inr ⟨A, y, h1, h2, h3, h4, rfl, by omega⟩
theorem len_countL (l : List JV) : l.length ≤ countL l := by
 induction l with
 | nil => simp
 | cons x r ih =>
   rw [countL, List.length_cons, countV_eq]
   omega
theorem items_short {V : JV} (h : mayB V = true) {y : JV} (hy : y ∈ V.items) : y.items.length ≤ 8192 := by
 obtain ⟨-, -, c⟩ := (mayB_iff V).1 h
 rw [countV_eq] at c
 have h1 := countL_mem hy
 rw [countV_eq] at h1
 have h2 := len_countL y.items
 omega
theorem obj_most {V : JV} (h : mayB V = true) (nm : ByteArray) (s : PS) : objQ V nm 10000 s = objQ V nm 8192 s := by
 obtain ⟨R, s1, hR⟩ : ∃ R s1, takeQ V nm 5 s = (R, s1) := ⟨_, _, rfl⟩
 rw [objQ, objQ, hR]
 cases R with
 | none => rfl
 | some y =>
   have := items_short h (takeQ_mem hR).1
   simp only
   rw [if_neg (by omega), if_neg (by omega)]
end

section
set_option maxRecDepth 100000
open Go.RowKit
theorem infoSig : (Tryz.prog.info? 43).map (fun i => (i.zero, i.size, i.bytes)) = some (some (.agg #[.string ⟨#[]⟩, .string ⟨#[]⟩]), 2, 32) := by kernel_rfl
theorem DSt.later {Q w0 w w' : World} {o M : Nat} {V : JV} {x : VC} {av : Value} {s : PS} (h : DSt Q w0 w o M V x av s) (hb : Below w0.heap.size w0 w') (hg : ∀ k, k < w.heap.size → (k = o ∨ av.ownBlock = some k) → w'.heap[k]? = w.heap[k]?) : DSt Q w0 w' o M V x av s := by
 cases s with
 | bad e => exact DBad.later h hb (hg o (DSt.olt h).2 (Or.inl rfl))
 | ok A => exact DOk.later h hb hg
theorem b6' {w : World} {b : Nat} {T : TypeId} {v0 v1 v2 v3 v4 v5 : Value} (h : BlkAt w b T #[v0, v1, v2, v3, v4, v5]) :
   w.cell? ⟨b, 0, none⟩ = some v0 ∧ w.cell? ⟨b, 1, none⟩ = some v1 ∧ w.cell? ⟨b, 2, none⟩ = some v2 ∧ w.cell? ⟨b, 3, none⟩ = some v3 ∧ w.cell? ⟨b, 4, none⟩ = some v4 ∧ w.cell? ⟨b, 5, none⟩ = some v5 ∧ ∀ i, w.frozen? ⟨b, i, none⟩ = false :=
 ⟨h.cell 0, h.cell 1, h.cell 2, h.cell 3, h.cell 4, h.cell 5, h.free⟩
theorem row_same {w w' : World} {B : Nat} {T : TypeId} {n m : Nat} {v : Value} {xs : List Value} (h : w.ownsRow B T m v n xs) (hk : ∀ k, v.ownBlock = some k → w'.heap[k]? = w.heap[k]?) : w'.ownsRow B T m v n xs := by
 obtain ⟨r1, r2⟩ := h
 refine ⟨r1, ?_⟩
 rcases r2 with r2 | ⟨g, cap, cur, hv, hb2, hc, r⟩
 · exact Or.inl r2
 · subst hv
   exact Or.inr ⟨g, cap, cur, rfl, hb2, by rw [hk g rfl]; exact hc, r⟩
theorem DSt.setT {Q w0 w : World} {o M : Nat} {V : JV} {x : VC} {av : Value} {s : PS} (h : DSt Q w0 w o M V x av s) {b : Nat} {T : TypeId} {cs : Array Value} (hz : BlkAt w b T cs) (hT : T ≠ 9) (h1 : w0.heap.size ≤ b) (h2 : b ≠ o) (i : Nat) (v : Value) : DSt Q w0 (w.setCell ⟨b, i, none⟩ v) o M V x av s := by
 cases s with
 | bad e =>
   have h' : DBad w0 w o e := h
   exact h'.later (bel_set h'.bel (p := ⟨b, i, none⟩) h1 v) (Below.heap_setCell _ _ _ _ (fun e => h2 e.symm))
 | ok A =>
   have h' : DOk Q w0 w o M V x av A := h
   refine h'.later (bel_set h'.bel (p := ⟨b, i, none⟩) h1 v) fun k _ hk => Below.heap_setCell _ _ _ _ (fun e => ?_)
   have e2 : k = b := e
   rcases hk with hk | hk
   · exact h2 (e2.symm.trans hk)
   · rcases h'.row.2 with ⟨rfl, -⟩ | ⟨g, cap, cur, rfl, -, hg, -⟩
     · simp [Value.ownBlock] at hk
     · have e3 : g = k := Option.some.inj hk
       subst e3
       subst e2
       unfold BlkAt at hz
       rw [hg] at hz
       simp only [Option.some.injEq, Obj.cells.injEq] at hz
       exact hT hz.2.1.symm
theorem item_vc {w : World} {la : Option Addr} {n lc : Nat} {l : List JV} (h : ItemsAt w (.slice la n lc) l) {j : Nat} {y : JV} (hy : l[j]? = some y) : ∃ (ib io : Nat) (v : VC), la = some ⟨ib, io, none⟩ ∧ w.cell? ⟨ib, io + j * 5, none⟩ = some (.int .u8 v.k) ∧ w.cell? ⟨ib, io + j * 5 + 1, none⟩ = some (.int .i64 v.n) ∧ w.cell? ⟨ib, io + j * 5 + 2, none⟩ = some (.string v.t) ∧ w.cell? ⟨ib, io + j * 5 + 3, none⟩ = some (.slice v.a v.l v.c) ∧ w.cell? ⟨ib, io + j * 5 + 4, none⟩ = some (.slice v.b v.m v.e) ∧ ValAt w y v.val := by
 obtain ⟨a, cap, e, -, hp⟩ := h.parts
 cases e
 obtain ⟨b, o, vn, vi, e, c0, c1, c2, c3, c4, q⟩ := hp j y hy
 have hv := valAt_iff.2 ⟨vn, vi, rfl, q⟩
 obtain ⟨-, -, -, -, -, q1, q2⟩ := q
 obtain ⟨xa, xc, rfl, -⟩ := q1.parts
 obtain ⟨xb, xe, rfl, -⟩ := q2.parts
 exact ⟨b, o, ⟨y.k, y.n, y.t, xa, _, xc, xb, _, xe⟩, e, c0, c1, c2, c3, c4, hv⟩
theorem DSt.setT5 {Q w0 w : World} {o M : Nat} {V : JV} {x : VC} {av : Value} {s : PS} (h : DSt Q w0 w o M V x av s) {b : Nat} {T : TypeId} {cs : Array Value} (hz : BlkAt w b T cs) (hT : T ≠ 9) (h1 : w0.heap.size ≤ b) (h2 : b ≠ o) (v0 v1 v2 v3 v4 : Value) : DSt Q w0 (((((w.setCell ⟨b, 0, none⟩ v0).setCell ⟨b, 1, none⟩ v1).setCell ⟨b, 2, none⟩ v2).setCell ⟨b, 3, none⟩ v3).setCell ⟨b, 4, none⟩ v4) o M V x av s :=
 ((((h.setT hz hT h1 h2 0 v0).setT (BlkAt.set hz 0 v0) hT h1 h2 1 v1).setT ((BlkAt.set hz 0 v0).set 1 v1) hT h1 h2 2 v2).setT (((BlkAt.set hz 0 v0).set 1 v1).set 2 v2) hT h1 h2 3 v3).setT ((((BlkAt.set hz 0 v0).set 1 v1).set 2 v2).set 3 v3) hT h1 h2 4 v4
theorem blk6_set5 {w : World} {b : Nat} {T : TypeId} {a0 a1 a2 a3 a4 a5 : Value} (h : BlkAt w b T #[a0, a1, a2, a3, a4, a5]) (v0 v1 v2 v3 v4 : Value) : BlkAt (((((w.setCell ⟨b, 0, none⟩ v0).setCell ⟨b, 1, none⟩ v1).setCell ⟨b, 2, none⟩ v2).setCell ⟨b, 3, none⟩ v3).setCell ⟨b, 4, none⟩ v4) b T #[v0, v1, v2, v3, v4, a5] :=
 ((((BlkAt.set h 0 v0).set 1 v1).set 2 v2).set 3 v3).set 4 v4
theorem sigPost_of {V : JV} {w : World} {e : Ending} {w' : World} (h : SigPost V w e w') : Below w.heap.size w w' ∧ ∃ a b er, e = .returned (.tuple #[.agg #[.string a, .string b], .int .i64 er]) ∧ ((er = 0 ∧ sigV V = .ok (a, b)) ∨ (er ≠ 0 ∧ sigV V = .bad er)) := by
 obtain ⟨h1, h2⟩ := h
 refine ⟨h1, ?_⟩
 cases hs : sigV V with
 | bad er =>
   rw [hs] at h2
   obtain ⟨⟨a, b, e1⟩, e2⟩ := h2
   exact ⟨a, b, er, e1, Or.inr ⟨e2, rfl⟩⟩
 | ok s =>
   rw [hs] at h2
   exact ⟨s.1, s.2, 0, h2, Or.inl ⟨rfl, rfl⟩⟩
set_option maxHeartbeats 8000000 in
theorem dEnv_any (V : JV) (x : VC) (Q w : World) (h : ValAt Q V x.val) (hsub : ∀ p u, Q.cell? p = some u → w.cell? p = some u) (hwt : wt V ≤ 1000000000) (R : PQ (List SigP × JV)) (hR : Hid (envV V = R)) :
   Calls Tryz.prog 19 #[x.val] w (EnvPostD Q R w) := by
 have HSUB := Lib.hid hsub
 have hvw : ValAt w V x.val := h.imp hsub
 obtain ⟨mb, hmb⟩ : ∃ b, mayB V = b := ⟨_, rfl⟩
 have HMAY := Lib.hid (fun W (hb : Below w.heap.size w W) => refMay_any V x.val W (hvw.keep hb) hwt mb (Lib.hid hmb))
 obtain ⟨xk, xn, xt, xa, xl, xc, xb, xm, xe⟩ := x
 obtain ⟨W, hW⟩ : ∃ W, W = (w.alloc (.cells #[.int .u8 xk, .int .i64 xn, .string xt, .slice xa xl xc, .slice xb xm xe] 26)).alloc (.cells #[.int .u8 0, .int .i64 0, .string ⟨#[]⟩, .slice none 0 0, .slice none 0 0, .slice none 0 0] 29) := ⟨_, rfl⟩
 have hbW : Below w.heap.size w W := by rw [hW]; exact bel_alloc (bel_alloc (Below.refl _ _) _) _
 have hrb : BlkAt W (w.heap.size + 1) 29 #[.int .u8 0, .int .i64 0, .string ⟨#[]⟩, .slice none 0 0, .slice none 0 0, .slice none 0 0] := by
   rw [hW]
   have := blkAt_new (w.alloc (.cells #[.int .u8 xk, .int .i64 xn, .string xt, .slice xa xl xc, .slice xb xm xe] 26)) #[.int .u8 0, .int .i64 0, .string ⟨#[]⟩, .slice none 0 0, .slice none 0 0, .slice none 0 0] 29
   rwa [size_al] at this
 have hvb : BlkAt W w.heap.size 26 #[.int .u8 xk, .int .i64 xn, .string xt, .slice xa xl xc, .slice xb xm xe] := by
   rw [hW]
   exact (blkAt_new w _ _).alloc _
 have HBW := Lib.hid hbW
 have HRB := Lib.hid hrb
 have HVB := Lib.hid hvb
 have HV := Lib.hid h
 have HW := Lib.hid hW
 cases mb with
 | false =>
   have hr := hR.out
   rw [envV, if_pos hmb] at hr
   subst hr
   clear h hwt hvw hsub hR hmb hW hbW hrb hvb
   go_enter Tryz.func19, Tryz.ntmps19
   simp only [VC.val] at HMAY ⊢
   go_wp2_with fail
   rw [← HW.out]
   refine (HMAY.out _ HBW.out).mono ?_
   rintro e w2 ⟨rfl, hb2⟩
   obtain ⟨r0, r1, r2, r3, r4, r5, rf⟩ := b6' (BlkAt.keep HRB.out hb2)
   have HB2 := Lib.hid (below_more HBW.out hb2)
   clear hb2
   go_wp2_with fail
   refine bodyPost_ret (v := .tuple #[.agg #[.int .u8 0, .int .i64 0, .string ⟨#[]⟩, .slice none 0 0, .slice none 0 0, .slice none 0 0], .int .i64 3]) (by simp [results, Tryz.results19, go_sem, r0, r1, r2, r3, r4, r5]) rfl ⟨?_, rfl, by decide⟩
   refine bel_set (bel_set (bel_set (bel_set (bel_set (bel_set HB2.out (Nat.le_succ _) _) (Nat.le_succ _) _) (Nat.le_succ _) _) (Nat.le_succ _) _) (Nat.le_succ _) _) (Nat.le_succ _) _
 | true =>
   have HMB := Lib.hid hmb
   obtain ⟨s0, hs0⟩ : ∃ s, pickQ V = s := ⟨_, rfl⟩
   obtain ⟨l, s1, hs1⟩ : ∃ t s, listQ V tSigs 32 s0 = (t, s) := ⟨_, _, rfl⟩
   obtain ⟨X, s2, hs2⟩ : ∃ t s, objQ V tSigned 10000 (failQ (sigsV l).2 s1) = (t, s) := ⟨_, _, rfl⟩
   have hr : (if doneQ V s2 ≠ 0 then PQ.bad (doneQ V s2) else .ok ((sigsV l).1, X)) = R := by
     rw [obj_most hmb] at hs2
     have := hR.out
     unfold envV at this
     rw [if_neg (by rw [hmb]; decide)] at this
     simpa only [hs0, hs1, hs2] using this
   have HR := Lib.hid hr
   have HS1 := Lib.hid hs1
   have HS2 := Lib.hid hs2
   have HS0 := Lib.hid hs0
   have hdf := dOf_any V ⟨xk, xn, xt, xa, xl, xc, xb, xm, xe⟩ Q w
   rw [hs0] at hdf
   have HOF := Lib.hid (fun W (hb : Below w.heap.size w W) => hdf W h hsub hb (may_fit hmb))
   clear h hwt hvw hsub hR hmb hW hbW hrb hvb hs0 hs1 hs2 hr hdf
   go_enter Tryz.func19, Tryz.ntmps19
   simp only [VC.val] at HMAY HOF HV ⊢
   go_wp2_with fail
   rw [← HW.out]
   refine (HMAY.out _ HBW.out).mono ?_
   rintro e w2 ⟨rfl, hb2⟩
   obtain ⟨a0, a1, a2, a3, a4, af⟩ := b5 (BlkAt.keep HVB.out hb2)
   have HB2 := Lib.hid (below_more HBW.out hb2)
   have HR2 := Lib.hid (BlkAt.keep HRB.out hb2)
   clear hb2 HW HVB HRB HMAY
   go_wp2_with fail
   refine (HOF.out _ HB2.out).mono ?_
   rintro e w3 ⟨o, rfl, how, hb3, hd3⟩
   have HD3 := Lib.hid (hd3 (o + 1) (by omega))
   have HBW2 := Lib.hid HB2.out
   have hrw := BlkAt.lt HR2.out
   have hsz3 := hb3.size
   clear HOF a0 a1 a2 a3 a4 af hd3 HBW
   go_wp2_with fail
   have ho3 := HD3.out.olt
   have hA0 : ∀ A, s0 = .ok A → A.length ≤ 900 := fun A hA => by rw [(pick_ok (HS0.out.trans hA)).2]; simp
   refine (dList_any HD3.out tSigs 32 hA0 (by omega) (by show _ ≤ _; decide) (by simp [Value.ownBlock]) l s1 HS1).mono ?_
   rintro e w4 ⟨⟨sl, rfl, hit⟩, hd4, hsep4⟩
   obtain ⟨av, hd4, hav4⟩ := dst_av hd4
   obtain ⟨la, lc, rfl, hl0, -⟩ := hit.parts
   obtain ⟨n, hn⟩ : ∃ n, l.length = n := ⟨_, rfl⟩
   have hn32 : n ≤ 32 := by
     rcases list_ok HS1.out with ⟨_, -, h⟩ | ⟨_, _, -, -, -, -, -, h⟩
     · rw [← hn, h]; simp
     · omega
   have hmay : ∀ y ∈ l, mayB y = true := by
     rcases list_ok HS1.out with ⟨_, -, h⟩ | ⟨B, y, h1, -, h2, h3, h4, -⟩
     · rw [h]; simp
     · rw [h4]
       intro z hz
       exact may_item (may_item HMB.out (Or.inr (pick_ok (HS0.out.trans h1)).1) h2) (Or.inl h3) hz
   have hA1 : ∀ A, s1 = .ok A → A.length ≤ 900 := fun A hA => by
     rcases list_ok HS1.out with ⟨_, h, -⟩ | ⟨B, _, h1, h2, -⟩
     · rw [hA] at h; cases h
     · rw [hA] at h2
       cases h2
       rw [(pick_ok (HS0.out.trans h1)).2]
       simp
   have hbad : ∀ e, s1 = .bad e → n = 0 := fun e he => by
     rcases list_ok HS1.out with ⟨_, -, h⟩ | ⟨B, _, -, h2, -⟩
     · rw [← hn, h]; rfl
     · rw [he] at h2; cases h2
   have HMAY := Lib.hid hmay
   have HA1 := Lib.hid hA1
   have HBAD := Lib.hid hbad
   have HN := Lib.hid hn
   rw [hn] at hit
   have HIT := Lib.hid hit
   have ho4 := hd4.olt
   have HAV := Lib.hid hav4
   have HD4 := Lib.hid (hd4.keep (bel_alloc (Below.refl w4.heap.size w4) (.cells #[.int .u8 0, .int .i64 0, .string ⟨#[]⟩, .slice none 0 0, .slice none 0 0, .slice none 0 0] 29)))
   have HB4 : Hid (BlkAt (w4.alloc (.cells #[.int .u8 0, .int .i64 0, .string ⟨#[]⟩, .slice none 0 0, .slice none 0 0, .slice none 0 0] 29)) w4.heap.size 29 #[.int .u8 0, .int .i64 0, .string ⟨#[]⟩, .slice none 0 0, .slice none 0 0, .slice none 0 0]) := blkAt_new w4 _ _
   have hs45 := size_al w4 (.cells #[.int .u8 0, .int .i64 0, .string ⟨#[]⟩, .slice none 0 0, .slice none 0 0, .slice none 0 0] 29)
   have hrw4 : w.heap.size + 1 < w4.heap.size := by have := hsep4.size; omega
   have HRB : Hid (BlkAt w3 (w.heap.size + 1) 29 #[.int .u8 0, .int .i64 0, .string ⟨#[]⟩, .slice none 0 0, .slice none 0 0, .slice none 0 0]) := BlkAt.keep HR2.out hb3
   have HRB4 : Hid (BlkAt w4 (w.heap.size + 1) 29 #[.int .u8 0, .int .i64 0, .string ⟨#[]⟩, .slice none 0 0, .slice none 0 0, .slice none 0 0]) := (hsep4.block _ (by omega) (by omega) (by simp [Value.ownBlock])).trans HRB.out
   rw [hn]
   have hob : ¬ o = w4.heap.size := by omega
   obtain ⟨w5, hw5⟩ : ∃ y, w4.alloc (.cells #[.int .u8 0, .int .i64 0, .string ⟨#[]⟩, .slice none 0 0, .slice none 0 0, .slice none 0 0] 29) = y := ⟨_, rfl⟩
   obtain ⟨b, hb⟩ : ∃ y, w4.heap.size = y := ⟨_, rfl⟩
   have HRB5 : Hid (BlkAt w5 (w.heap.size + 1) 29 #[.int .u8 0, .int .i64 0, .string ⟨#[]⟩, .slice none 0 0, .slice none 0 0, .slice none 0 0]) := by rw [← hw5]; exact HRB4.out.alloc _
   have HW5 := Lib.hid hw5
   rw [hw5] at HD4 HB4 hs45
   rw [hb] at HB4 hs45 hob hrw4 HAV ho4
   have HBB := Lib.hid hb
   have hrs : ¬ o = w.heap.size + 1 := by omega
   have hob3 : o < b := by omega
   clear HRB4 HRB hd4 hsep4 hit hmay hA1 hbad hn hav4 hb3 HR2 hw5 hb HB2 HBW2 HD3 ho3
   go_wp2_with fail
   rw [HW5.out, HBB.out]
   obtain ⟨i0, hi, hz0, hz1, hz2⟩ := info_parts infoSig
   have HI := Lib.hid hi
   have HZ0 := Lib.hid hz0
   have HZ1 := Lib.hid hz1
   have HZ2 := Lib.hid hz2
   clear hi hz0 hz1 hz2
   go_loopw [7] (fun i wr => ∃ (j : Nat) (st : PS) (sg : List SigP) (sa : Option Addr) (sl sc : Nat), j ≤ n ∧ i = .int .i64 j ∧ sg.length = sl ∧ sl ≤ j ∧ Hid (DSt Q w wr o (o + 1) V ⟨xk, xn, xt, xa, xl, xc, xb, xm, xe⟩ av st) ∧ Hid (BlkAt wr b 29 #[.int .u8 0, .int .i64 0, .string ⟨#[]⟩, .slice none 0 0, .slice none 0 0, .slice sa sl sc]) ∧ Hid (wr.ownsRow (b + 1) 43 2 (.slice sa sl sc) sg.length (sgCells sg)) ∧ Hid (BlkAt wr (w.heap.size + 1) 29 #[.int .u8 0, .int .i64 0, .string ⟨#[]⟩, .slice none 0 0, .slice none 0 0, .slice none 0 0]) ∧ Hid (((sigsV (l.take j)).2 = 0 ∧ sg = (sigsV (l.take j)).1 ∧ st = s1) ∨ ∃ er, st = .bad er ∧ failQ (sigsV l).2 s1 = .bad er)) (fun i _ => n - (intOf i).toNat)
   case atStart => exact ⟨0, s1, [], none, 0, 0, by omega, rfl, rfl, by omega, HD4, HB4, World.ownsRow_nil _ _ _ _, HRB5, Or.inl ⟨rfl, rfl, rfl⟩⟩
   case round =>
     obtain ⟨j, st, sg, sa, sl, sc, hj, rfl, hsl, hslj, HDr, HBr, HSr, HRr, HQr⟩ := hrel
     clear HD4 HB4 HRB5
     have hsb := BlkAt.lt HBr.out
     have hos : o < wr.heap.size := by omega
     have hav1 : ∀ k, av.ownBlock = some k → w.heap.size ≤ k := fun k hk => by have := (HAV.out k hk).1; omega
     by_cases hjn : j < n
     · cases st with
       | bad er =>
         have hi0 : (0 : Int) ≤ (j : Int) := by omega
         have hi1 : (j : Int) < (n : Int) := by omega
         have HBD : Hid (DBad w wr o er) := HDr.out
         obtain ⟨k0, k1, k2, k3, k4, k5, hkb⟩ := HBD.out.blk
         obtain ⟨-, -, -, -, -, -, k6, kf⟩ := b7 hkb
         have heb : (er == 0) = false := beq_eq_false_iff_ne.2 HBD.out.ne
         obtain ⟨st, hst⟩ : ∃ s, PS.bad er = s := ⟨_, rfl⟩
         have hf : st = failQ (sigsV l).2 s1 := by
           rcases HQr.out with ⟨h1, h2, h3⟩ | ⟨er', h1, h2⟩
           · have := HBAD.out er h3.symm
             omega
           · rw [← hst, h1, h2]
         have hsgf : ∀ A, st = .ok A → sg = (sigsV l).1 := fun A hA => by rw [← hst] at hA; cases hA
         rw [hst] at HDr HQr
         clear hst hkb HBD
         have hsF := HS2.out
         rw [← hf] at hsF
         have hA2 : ∀ A, st = .ok A → A.length ≤ 900 := fun A hA => by
           rw [hA] at hf
           cases hs1 : s1 with
           | bad e => rw [hs1, failQ] at hf; cases hf
           | ok B =>
             rw [hs1, failQ] at hf
             split at hf
             · cases hf
               exact HA1.out A hs1
             · cases hf
         have HOBJ := Lib.hid (dObject_any HDr.out tSigned 10000 hA2 (by omega) (by show _ ≤ _; decide) (fun k hk => by have h1 := HAV.out k hk; omega) X s2 (Lib.hid hsF))
         have HSGF := Lib.hid hsgf
         have HSF := Lib.hid hsF
         have HDr0 := Lib.hid HDr.out
         clear hA2 hsF hf hsgf HQr
         go_wp2_with fail
         refine HOBJ.out.mono ?_
         rintro e w6 ⟨⟨⟨zk, zn, zt, za, zl, zc, zb, zm, ze⟩, rfl, hzv⟩, ⟨hd6, hsep6⟩⟩
         obtain ⟨av6, hd6, -⟩ := dst_av hd6
         have hnb : ∀ k, b ≤ k → some k ≠ av.ownBlock := fun k hk e => by have h1 := (HAV.out k e.symm).2; omega
         have HB6 : Hid (BlkAt w6 b 29 #[.int .u8 0, .int .i64 0, .string ⟨#[]⟩, .slice none 0 0, .slice none 0 0, .slice sa sl sc]) := (hsep6.block b (by omega) (by omega) (hnb b (by omega))).trans HBr.out
         have HR6 : Hid (BlkAt w6 (w.heap.size + 1) 29 #[.int .u8 0, .int .i64 0, .string ⟨#[]⟩, .slice none 0 0, .slice none 0 0, .slice none 0 0]) := (hsep6.block _ (by omega) (by omega) (fun e => by have h1 := (HAV.out _ e.symm).1; omega)).trans HRr.out
         have HS6 : Hid (w6.ownsRow (b + 1) 43 2 (.slice sa sl sc) sg.length (sgCells sg)) := row_same HSr.out fun k hk => by
           have h1 := World.ownsRow.lt HSr.out k hk
           exact hsep6.block k h1.2 (by omega) (hnb k (by omega))
         obtain ⟨b0, b1, b2', b3, b4, b5, bf⟩ := b6' HB6.out
         have hwb : w.heap.size ≤ b := by omega
         have HD7 := Lib.hid (hd6.setT5 HB6.out (by decide) hwb (fun e => hob e.symm) (.int .u8 zk) (.int .i64 zn) (.string zt) (.slice za zl zc) (.slice zb zm ze))
         have HB7 := Lib.hid (blk6_set5 HB6.out (.int .u8 zk) (.int .i64 zn) (.string zt) (.slice za zl zc) (.slice zb zm ze))
         have HS7 := Lib.hid (row_far5 HS6.out (b := b) (fun e => by have := (World.ownsRow.lt HS6.out b e.symm).1; omega) (.int .u8 zk) (.int .i64 zn) (.string zt) (.slice za zl zc) (.slice zb zm ze))
         have HR7 := Lib.hid (far5 HR6.out (b := b) (by omega) (.int .u8 zk) (.int .i64 zn) (.string zt) (.slice za zl zc) (.slice zb zm ze))
         have HZV := Lib.hid hzv
         simp only [VC.val]
         clear hd6 hsep6 hnb hzv HDr HBr HSr HRr HB6 HR6 HS6 HOBJ
         go_wp2_with fail
         generalize (((((w6.setCell ⟨b, 0, none⟩ (.int .u8 zk)).setCell ⟨b, 1, none⟩ (.int .i64 zn)).setCell ⟨b, 2, none⟩ (.string zt)).setCell ⟨b, 3, none⟩ (.slice za zl zc)).setCell ⟨b, 4, none⟩ (.slice zb zm ze)) = w7 at HD7 HB7 HS7 HR7 ⊢
         refine (dDone_any HD7.out).mono ?_
         rintro e w8 ⟨rfl, hb8⟩
         have HB8 := Lib.hid (BlkAt.keep HB7.out hb8)
         have HS8 := Lib.hid (ownsRow_keep HS7.out hb8)
         have HR8 := Lib.hid (BlkAt.keep HR7.out hb8)
         have HBEL := Lib.hid (below_more HD7.out.bel hb8)
         obtain ⟨dq, hdq⟩ : ∃ q, doneQ V s2 = q := ⟨_, rfl⟩
         rw [hdq]
         have hr := HR.out
         rw [hdq] at hr
         obtain ⟨x0, x1, x2, x3, x4, x5, xf⟩ := b6' HB8.out
         obtain ⟨r0, r1, r2, r3, r4, r5, rf⟩ := b6' HR8.out
         have hrbb : ¬ w.heap.size + 1 = b := by omega
         have hbrb : ¬ b = w.heap.size + 1 := by omega
         have hst0 : dq = 0 → ∃ A, st = .ok A := fun h0 => by
           cases st with
           | ok A => exact ⟨A, rfl⟩
           | bad e0 =>
             have h1 := HSF.out
             rw [objQ, takeQ] at h1
             cases h1
             rw [doneQ] at hdq
             exact absurd (hdq.trans h0) (DBad.ne HDr0.out)
         clear HD7 HB7 HS7 HR7 hb8 hdq b0 b1 b2' b3 b4 b5 bf
         by_cases hd : dq = 0
         · rw [if_neg (by simpa using hd)] at hr
           have hdb : (dq != 0) = false := by rw [hd]; rfl
           obtain ⟨A, hA⟩ := hst0 hd
           have hsg := HSGF.out A hA
           have HSL := Lib.hid hsl
           clear hd hst0
           subst hr
           go_wp2_with fail
           have HS9 := row_far (row_far5 HS8.out (b := w.heap.size + 1) (fun e => by have := (World.ownsRow.lt HS8.out _ e.symm).1; omega) (.int .u8 zk) (.int .i64 zn) (.string zt) (.slice za zl zc) (.slice zb zm ze)) (b := w.heap.size + 1) (fun e => by have := (World.ownsRow.lt HS8.out _ e.symm).1; omega) 5 (.slice sa sl sc)
           have hbf := bel_set (bel_set (bel_set (bel_set (bel_set (bel_set HBEL.out (p := ⟨w.heap.size + 1, 0, none⟩) (Nat.le_succ _) (.int .u8 zk)) (p := ⟨w.heap.size + 1, 1, none⟩) (Nat.le_succ _) (.int .i64 zn)) (p := ⟨w.heap.size + 1, 2, none⟩) (Nat.le_succ _) (.string zt)) (p := ⟨w.heap.size + 1, 3, none⟩) (Nat.le_succ _) (.slice za zl zc)) (p := ⟨w.heap.size + 1, 4, none⟩) (Nat.le_succ _) (.slice zb zm ze)) (p := ⟨w.heap.size + 1, 5, none⟩) (Nat.le_succ _) (.slice sa sl sc)
           subst hsg
           have hsl2 := HSL.out
           subst hsl2
           refine bodyPost_ret (v := .tuple #[.agg #[.int .u8 zk, .int .i64 zn, .string zt, .slice za zl zc, .slice zb zm ze, .slice sa _ sc], .int .i64 0]) (by simp [results, Tryz.results19, go_sem, r0, r1, r2, r3, r4, r5]) rfl ⟨hbf, ⟨zk, zn, zt, za, zl, zc, zb, zm, ze⟩, _, _, rfl, HZV.out, sigsAt_own HS9 (by omega)⟩
         · rw [if_pos (by simpa using hd)] at hr
           have hdb : (dq != 0) = true := by rw [bne_iff_ne]; exact hd
           have HD := Lib.hid hd
           clear hd hst0
           subst hr
           go_wp2_with fail
           refine bodyPost_ret (v := .tuple #[.agg #[.int .u8 0, .int .i64 0, .string ⟨#[]⟩, .slice none 0 0, .slice none 0 0, .slice none 0 0], .int .i64 dq]) (by simp [results, Tryz.results19, go_sem, r0, r1, r2, r3, r4, r5]) rfl ⟨?_, rfl, HD.out⟩
           exact bel_set (bel_set (bel_set (bel_set (bel_set (bel_set HBEL.out (Nat.le_succ _) _) (Nat.le_succ _) _) (Nat.le_succ _) _) (Nat.le_succ _) _) (Nat.le_succ _) _) (Nat.le_succ _) _
       | ok A =>
         obtain ⟨hq0, hsg, hst⟩ : (sigsV (l.take j)).2 = 0 ∧ sg = (sigsV (l.take j)).1 ∧ PS.ok A = s1 := by
           rcases HQr.out with h | ⟨er, h, -⟩
           · exact h
           · cases h
         have hi0 : (0 : Int) ≤ (j : Int) := by omega
         have hi1 : (j : Int) < (n : Int) := by omega
         have HOK : Hid (DOk Q w wr o (o + 1) V ⟨xk, xn, xt, xa, xl, xc, xb, xm, xe⟩ av A) := HDr.out
         obtain ⟨-, -, -, -, -, -, k6, kf⟩ := b7 HOK.out.blk
         obtain ⟨y, hy⟩ : ∃ y, l[j]? = some y := ⟨_, List.getElem?_eq_getElem (by rw [HN.out]; exact hjn)⟩
         obtain ⟨ib, io, ⟨yk, yn, yt, ya, yl, yc, yb, ym, ye⟩, rfl, c0, c1, c2, c3, c4, hyv⟩ := item_vc HIT.out hy
         have d0 := cell_keep HOK.out.bel (HSUB.out _ _ c0)
         have d1 := cell_keep HOK.out.bel (HSUB.out _ _ c1)
         have d2 := cell_keep HOK.out.bel (HSUB.out _ _ c2)
         have d3 := cell_keep HOK.out.bel (HSUB.out _ _ c3)
         have d4 := cell_keep HOK.out.bel (HSUB.out _ _ c4)
         have HSIG := Lib.hid (dSig_any y _ wr ((hyv.imp HSUB.out).keep HOK.out.bel) (HMAY.out y (List.mem_of_getElem? hy)))
         have HY := Lib.hid hy
         have HQ0 := Lib.hid hq0
         have HSG := Lib.hid hsg
         have HST := Lib.hid hst
         clear c0 c1 c2 c3 c4 hyv hy hq0 hsg hst HQr
         simp only [VC.val] at HSIG
         go_wp2_with fail
         refine HSIG.out.mono ?_
         rintro e w6 hp
         obtain ⟨hb6, ga, gb, er, rfl, hcs⟩ := sigPost_of hp
         have HCS := Lib.hid hcs
         have hb7 := below_more hb6 (bel_alloc (Below.refl w6.heap.size w6) (.cells #[.string ga, .string gb] 43))
         have HD7 := Lib.hid (HDr.out.keep hb7)
         have HB7 := Lib.hid (BlkAt.keep HBr.out hb7)
         have HS7 := Lib.hid (ownsRow_keep HSr.out hb7)
         have HR7 := Lib.hid (BlkAt.keep HRr.out hb7)
         have HT7 := Lib.hid (blkAt_new w6 #[.string ga, .string gb] 43)
         have hs6 := hb6.size
         have hs7 := size_al w6 (.cells #[.string ga, .string gb] 43)
         clear hp hcs hb6 hb7 HDr HBr HSr HRr HOK HSIG d0 d1 d2 d3 d4 k6 kf
         go_wp2_with fail
         obtain ⟨w7, hw7⟩ : ∃ y, w6.alloc (.cells #[.string ga, .string gb] 43) = y := ⟨_, rfl⟩
         obtain ⟨tb, htb⟩ : ∃ y, w6.heap.size = y := ⟨_, rfl⟩
         rw [hw7] at HD7 HB7 HS7 HR7 HT7 hs7 ⊢
         rw [htb] at HT7 hs7 hs6 ⊢
         clear hw7 htb
         refine (dFail_any HD7.out er hav1).mono ?_
         rintro e w8 ⟨rfl, ⟨-, hsep8⟩, hd8⟩
         have hnb : ∀ k, w4.heap.size ≤ k → some k ≠ av.ownBlock := fun k hk e => by have h1 := (HAV.out k e.symm).2; have h2 := HBB.out; omega
         have HD8 := Lib.hid hd8
         have HB8 : Hid (BlkAt w8 b 29 #[.int .u8 0, .int .i64 0, .string ⟨#[]⟩, .slice none 0 0, .slice none 0 0, .slice sa sl sc]) := (hsep8.block b (by omega) (by omega) (hnb b (by have := HBB.out; omega))).trans HB7.out
         have HT8 : Hid (BlkAt w8 tb 43 #[.string ga, .string gb]) := (hsep8.block tb (by omega) (by omega) (hnb tb (by have := HBB.out; omega))).trans HT7.out
         have HR8 : Hid (BlkAt w8 (w.heap.size + 1) 29 #[.int .u8 0, .int .i64 0, .string ⟨#[]⟩, .slice none 0 0, .slice none 0 0, .slice none 0 0]) := (hsep8.block _ (by omega) (by omega) (fun e => by have h1 := (HAV.out _ e.symm).1; omega)).trans HR7.out
         have HS8 : Hid (w8.ownsRow (b + 1) 43 2 (.slice sa sl sc) sg.length (sgCells sg)) := row_same HS7.out fun k hk => by
           have h1 := World.ownsRow.lt HS7.out k hk
           exact hsep8.block k h1.2 (by omega) (hnb k (by have := HBB.out; omega))
         have hs8 := hsep8.size
         obtain ⟨-, -, -, -, -, b5, bf⟩ := b6' HB8.out
         obtain ⟨t0, t1, tf⟩ := b2 HT8.out
         have hslb : sl ≤ 32 := by omega
         have HSL := Lib.hid hsl
         clear hsep8 hd8 hnb HD7 HB7 HS7 HR7 HT7 hsl
         go_wp2_with (at_builtin; refine wpList_append_own_at _ rfl _ _ 27 rfl (b + 1) 43 i0 (.agg #[.string ⟨#[]⟩, .string ⟨#[]⟩]) 2 32 Tryz.underlying27 HI.out HZ0.out HZ1.out HZ2.out rfl (by decide) _ _ _ rfl (World.ownsRow.alloc HS8.out _) ⟨w8.heap.size, 0, none⟩ 1 1 [.string ga, .string gb] rfl rfl ?c1 ?c2 ?c3 ?c4 ?c5 ?_)
         case c1 =>
           intro j u hj
           have hadd : (⟨w8.heap.size, 0, none⟩ : Addr).add j = ⟨w8.heap.size, j, none⟩ := by unfold Addr.add; split <;> simp_all
           rw [hadd, cell_al_eq _ _ _ _ _ rfl]
           simpa using hj
         case c2 =>
           intro u hu
           simp only [List.mem_cons, List.not_mem_nil, or_false] at hu
           rcases hu with rfl | rfl <;> rfl
         case c3 => have h1 := HSL.out; unfold maxLen; omega
         case c4 => have h1 := HSL.out; omega
         case c5 => first | omega | (rw [size_al]; omega)
         intro v' w9 hown9 hgrow9 _ hblk9
         obtain ⟨g9, p9, rfl, hg9, hg9'⟩ := World.ownsRow.form hown9 (by omega)
         have hlow : ∀ k, k < b + 1 → (Value.slice sa sl sc).ownBlock ≠ some k := fun k hk e => by have := (World.ownsRow.lt HS8.out k e).1; omega
         have hkeep : ∀ k, k < w8.heap.size → (Value.slice sa sl sc).ownBlock ≠ some k → w9.heap[k]? = w8.heap[k]? := fun k hk hne => (hgrow9.block k (by rw [size_al]; omega) (fun e => hne e.symm)).trans ((bel_alloc (Below.refl _ w8) _).block k hk)
         have hwb : w.heap.size ≤ b := by omega
         have hbl8 := HD8.out.bel
         have hbel9 : Below w.heap.size w w9 := ⟨hgrow9.os.trans hbl8.os, hgrow9.tape.trans hbl8.tape, hgrow9.output.trans hbl8.output, by have h1 := hgrow9.size; have h2 := hbl8.size; rw [size_al] at h1; omega, fun k hk => (hkeep k (by have := hbl8.size; omega) (hlow k (by omega))).trans (hbl8.block k hk)⟩
         have hd9 := HD8.out.later hbel9 (fun k hk ho => hkeep k hk (hlow k (by
           rcases ho with rfl | ho
           · omega
           · have := (HAV.out k ho).2; omega)))
         have HB9 : Hid (BlkAt w9 b 29 #[.int .u8 0, .int .i64 0, .string ⟨#[]⟩, .slice none 0 0, .slice none 0 0, .slice sa sl sc]) := (hkeep b (by omega) (hlow b (by omega))).trans HB8.out
         have HR9 : Hid (BlkAt w9 (w.heap.size + 1) 29 #[.int .u8 0, .int .i64 0, .string ⟨#[]⟩, .slice none 0 0, .slice none 0 0, .slice none 0 0]) := (hkeep _ (by omega) (hlow _ (by omega))).trans HR8.out
         have HS9 : Hid (w9.ownsRow (b + 1) 43 2 (.slice (some ⟨g9, 0, none⟩) (sg.length + 1) p9) (sg ++ [(ga, gb)]).length (sgCells (sg ++ [(ga, gb)]))) := by rw [List.length_append, sgCells_snoc]; exact hown9
         obtain ⟨-, -, -, -, -, b5, bf⟩ := b6' HB9.out
         have HD10 := Lib.hid (hd9.setT HB9.out (by decide) hwb (fun e => hob e.symm) 5 (.slice (some ⟨g9, 0, none⟩) (sg.length + 1) p9))
         have HB10 : Hid (BlkAt (w9.setCell ⟨b, 5, none⟩ (.slice (some ⟨g9, 0, none⟩) (sg.length + 1) p9)) b 29 #[.int .u8 0, .int .i64 0, .string ⟨#[]⟩, .slice none 0 0, .slice none 0 0, .slice (some ⟨g9, 0, none⟩) (sg.length + 1) p9]) := BlkAt.set HB9.out 5 _
         have HS10 := Lib.hid (row_far HS9.out (b := b) (by intro e; have e2 : b = g9 := Option.some.inj e; omega) 5 (.slice (some ⟨g9, 0, none⟩) (sg.length + 1) p9))
         have HR10 := Lib.hid (HR9.out.set_far (b := b) (by omega) 5 (.slice (some ⟨g9, 0, none⟩) (sg.length + 1) p9))
         clear hown9 hgrow9 hblk9 hlow hkeep hbel9 hd9 HB9 HR9 HS9 HD8 HB8 HT8 HR8 HS8 t0 t1 tf hbl8
         go_wp2_with fail
         refine ⟨⟨j + 1, failQ er (.ok A), sg ++ [(ga, gb)], some ⟨g9, 0, none⟩, sg.length + 1, p9, by omega, by go_num, by simp, by have := HSL.out; omega, HD10, HB10, HS10, HR10, ?_⟩, ?_⟩
         · show _ ∨ _
           rcases HCS.out with ⟨rfl, hs⟩ | ⟨hne, hs⟩
           · obtain ⟨m1, m2⟩ := sigs_more HY.out hs HQ0.out
             exact Or.inl ⟨m1, by rw [m2, ← HSG.out], by rw [failQ, if_pos rfl]; exact HST.out⟩
           · exact Or.inr ⟨er, by rw [failQ, if_neg hne], by rw [sigs_bad HY.out hs HQ0.out, ← HST.out, failQ, if_neg hne]⟩
         · simp [intOf]; omega
     · have hi1 : ¬ (j : Int) < (n : Int) := by omega
       obtain rfl : j = n := by omega
       have htl : l.take j = l := List.take_of_length_le (by rw [HN.out]; exact Nat.le_refl _)
       have hf : st = failQ (sigsV l).2 s1 := by
         rcases HQr.out with ⟨h1, h2, h3⟩ | ⟨er', h1, h2⟩
         · rw [htl] at h1
           rw [h1, h3]
           cases s1 with
           | bad e => rfl
           | ok A => rw [failQ, if_pos rfl]
         · rw [h1, h2]
       have hsgf : ∀ A, st = .ok A → sg = (sigsV l).1 := fun A hA => by
         rcases HQr.out with ⟨h1, h2, h3⟩ | ⟨er', h1, h2⟩
         · rw [htl] at h2
           exact h2
         · rw [hA] at h1; cases h1
       clear htl
       have hsF := HS2.out
       rw [← hf] at hsF
       have hA2 : ∀ A, st = .ok A → A.length ≤ 900 := fun A hA => by
         rw [hA] at hf
         cases hs1 : s1 with
         | bad e => rw [hs1, failQ] at hf; cases hf
         | ok B =>
           rw [hs1, failQ] at hf
           split at hf
           · cases hf
             exact HA1.out A hs1
           · cases hf
       have HOBJ := Lib.hid (dObject_any HDr.out tSigned 10000 hA2 (by omega) (by show _ ≤ _; decide) (fun k hk => by have h1 := HAV.out k hk; omega) X s2 (Lib.hid hsF))
       have HSGF := Lib.hid hsgf
       have HSF := Lib.hid hsF
       have HDr0 := Lib.hid HDr.out
       clear hA2 hsF hf hsgf HQr
       go_wp2_with fail
       refine HOBJ.out.mono ?_
       rintro e w6 ⟨⟨⟨zk, zn, zt, za, zl, zc, zb, zm, ze⟩, rfl, hzv⟩, ⟨hd6, hsep6⟩⟩
       obtain ⟨av6, hd6, -⟩ := dst_av hd6
       have hnb : ∀ k, b ≤ k → some k ≠ av.ownBlock := fun k hk e => by have h1 := (HAV.out k e.symm).2; omega
       have HB6 : Hid (BlkAt w6 b 29 #[.int .u8 0, .int .i64 0, .string ⟨#[]⟩, .slice none 0 0, .slice none 0 0, .slice sa sl sc]) := (hsep6.block b (by omega) (by omega) (hnb b (by omega))).trans HBr.out
       have HR6 : Hid (BlkAt w6 (w.heap.size + 1) 29 #[.int .u8 0, .int .i64 0, .string ⟨#[]⟩, .slice none 0 0, .slice none 0 0, .slice none 0 0]) := (hsep6.block _ (by omega) (by omega) (fun e => by have h1 := (HAV.out _ e.symm).1; omega)).trans HRr.out
       have HS6 : Hid (w6.ownsRow (b + 1) 43 2 (.slice sa sl sc) sg.length (sgCells sg)) := row_same HSr.out fun k hk => by
         have h1 := World.ownsRow.lt HSr.out k hk
         exact hsep6.block k h1.2 (by omega) (hnb k (by omega))
       obtain ⟨b0, b1, b2', b3, b4, b5, bf⟩ := b6' HB6.out
       have hwb : w.heap.size ≤ b := by omega
       have HD7 := Lib.hid (hd6.setT5 HB6.out (by decide) hwb (fun e => hob e.symm) (.int .u8 zk) (.int .i64 zn) (.string zt) (.slice za zl zc) (.slice zb zm ze))
       have HB7 := Lib.hid (blk6_set5 HB6.out (.int .u8 zk) (.int .i64 zn) (.string zt) (.slice za zl zc) (.slice zb zm ze))
       have HS7 := Lib.hid (row_far5 HS6.out (b := b) (fun e => by have := (World.ownsRow.lt HS6.out b e.symm).1; omega) (.int .u8 zk) (.int .i64 zn) (.string zt) (.slice za zl zc) (.slice zb zm ze))
       have HR7 := Lib.hid (far5 HR6.out (b := b) (by omega) (.int .u8 zk) (.int .i64 zn) (.string zt) (.slice za zl zc) (.slice zb zm ze))
       have HZV := Lib.hid hzv
       simp only [VC.val]
       clear hd6 hsep6 hnb hzv HDr HBr HSr HRr HB6 HR6 HS6 HOBJ
       go_wp2_with fail
       generalize (((((w6.setCell ⟨b, 0, none⟩ (.int .u8 zk)).setCell ⟨b, 1, none⟩ (.int .i64 zn)).setCell ⟨b, 2, none⟩ (.string zt)).setCell ⟨b, 3, none⟩ (.slice za zl zc)).setCell ⟨b, 4, none⟩ (.slice zb zm ze)) = w7 at HD7 HB7 HS7 HR7 ⊢
       refine (dDone_any HD7.out).mono ?_
       rintro e w8 ⟨rfl, hb8⟩
       have HB8 := Lib.hid (BlkAt.keep HB7.out hb8)
       have HS8 := Lib.hid (ownsRow_keep HS7.out hb8)
       have HR8 := Lib.hid (BlkAt.keep HR7.out hb8)
       have HBEL := Lib.hid (below_more HD7.out.bel hb8)
       obtain ⟨dq, hdq⟩ : ∃ q, doneQ V s2 = q := ⟨_, rfl⟩
       rw [hdq]
       have hr := HR.out
       rw [hdq] at hr
       obtain ⟨x0, x1, x2, x3, x4, x5, xf⟩ := b6' HB8.out
       obtain ⟨r0, r1, r2, r3, r4, r5, rf⟩ := b6' HR8.out
       have hrbb : ¬ w.heap.size + 1 = b := by omega
       have hbrb : ¬ b = w.heap.size + 1 := by omega
       have hst0 : dq = 0 → ∃ A, st = .ok A := fun h0 => by
         cases st with
         | ok A => exact ⟨A, rfl⟩
         | bad e0 =>
           have h1 := HSF.out
           rw [objQ, takeQ] at h1
           cases h1
           rw [doneQ] at hdq
           exact absurd (hdq.trans h0) (DBad.ne HDr0.out)
       clear HD7 HB7 HS7 HR7 hb8 hdq b0 b1 b2' b3 b4 b5 bf
       by_cases hd : dq = 0
       · rw [if_neg (by simpa using hd)] at hr
         have hdb : (dq != 0) = false := by rw [hd]; rfl
         obtain ⟨A, hA⟩ := hst0 hd
         have hsg := HSGF.out A hA
         have HSL := Lib.hid hsl
         clear hd hst0
         subst hr
         go_wp2_with fail
         have HS9 := row_far (row_far5 HS8.out (b := w.heap.size + 1) (fun e => by have := (World.ownsRow.lt HS8.out _ e.symm).1; omega) (.int .u8 zk) (.int .i64 zn) (.string zt) (.slice za zl zc) (.slice zb zm ze)) (b := w.heap.size + 1) (fun e => by have := (World.ownsRow.lt HS8.out _ e.symm).1; omega) 5 (.slice sa sl sc)
         have hbf := bel_set (bel_set (bel_set (bel_set (bel_set (bel_set HBEL.out (p := ⟨w.heap.size + 1, 0, none⟩) (Nat.le_succ _) (.int .u8 zk)) (p := ⟨w.heap.size + 1, 1, none⟩) (Nat.le_succ _) (.int .i64 zn)) (p := ⟨w.heap.size + 1, 2, none⟩) (Nat.le_succ _) (.string zt)) (p := ⟨w.heap.size + 1, 3, none⟩) (Nat.le_succ _) (.slice za zl zc)) (p := ⟨w.heap.size + 1, 4, none⟩) (Nat.le_succ _) (.slice zb zm ze)) (p := ⟨w.heap.size + 1, 5, none⟩) (Nat.le_succ _) (.slice sa sl sc)
         subst hsg
         have hsl2 := HSL.out
         subst hsl2
         refine bodyPost_ret (v := .tuple #[.agg #[.int .u8 zk, .int .i64 zn, .string zt, .slice za zl zc, .slice zb zm ze, .slice sa _ sc], .int .i64 0]) (by simp [results, Tryz.results19, go_sem, r0, r1, r2, r3, r4, r5]) rfl ⟨hbf, ⟨zk, zn, zt, za, zl, zc, zb, zm, ze⟩, _, _, rfl, HZV.out, sigsAt_own HS9 (by omega)⟩
       · rw [if_pos (by simpa using hd)] at hr
         have hdb : (dq != 0) = true := by rw [bne_iff_ne]; exact hd
         have HD := Lib.hid hd
         clear hd hst0
         subst hr
         go_wp2_with fail
         refine bodyPost_ret (v := .tuple #[.agg #[.int .u8 0, .int .i64 0, .string ⟨#[]⟩, .slice none 0 0, .slice none 0 0, .slice none 0 0], .int .i64 dq]) (by simp [results, Tryz.results19, go_sem, r0, r1, r2, r3, r4, r5]) rfl ⟨?_, rfl, HD.out⟩
         exact bel_set (bel_set (bel_set (bel_set (bel_set (bel_set HBEL.out (Nat.le_succ _) _) (Nat.le_succ _) _) (Nat.le_succ _) _) (Nat.le_succ _) _) (Nat.le_succ _) _) (Nat.le_succ _) _
end
end Go.Proofs.YtmggmpigpiaagaaGreatDoor
