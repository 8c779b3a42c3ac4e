/-
  legatelaw10.low; the walk of the law CanonBack.
-/
import Derived.Test.YtngebebhaehmnaaGreatDoorCanonAwake
import Derived.Test.YtngebebhaehmnaaGreatDoorCanonBackP
import Derived.Test.YtngebebhaehmnaaGreatDoorReadRead
import Derived.Test.YtngebebhaehmnaaGreatDoorSame
import Derived.IntWalk
namespace Go.Proofs.YtngebebhaehmnaaGreatDoor
open Go.RowKit

theorem lowL_take {s : ByteArray} {k : Nat} (h : k < s.size) (ha : lowL (s.data.toList.take k) = false) (hc : 32 ≤ s[k].toNat) : lowL (s.data.toList.take (k + 1)) = false := by
  rw [take_snoc s k h]
  unfold lowL at ha ⊢
  rw [List.any_append, ha]
  simp
  omega
theorem lowL_at {s : ByteArray} {k : Nat} (h : k < s.size) (hc : s[k].toNat < 32) : lowL s.data.toList = true := by
  unfold lowL
  rw [List.any_eq_true]
  exact ⟨s[k], mem_at s k h, by simpa using hc⟩
set_option maxRecDepth 100000 in
set_option maxHeartbeats 4000000 in
theorem lowT_any (s : ByteArray) (w : World) (hs : s.size ≤ maxLen) :
    Calls Tryz.prog 25 #[.agg #[.int .u8 3, .int .i64 0, .string s, .slice none 0 0, .slice none 0 0]] w fun e w' => e = .returned (.bool (lowL s.data.toList)) ∧ Below w.heap.size w w' := by
  unfold maxLen at hs
  obtain ⟨w2, hw2⟩ : ∃ x, x = w.alloc (.cells #[.int .u8 3, .int .i64 0, .string s, .slice none 0 0, .slice none 0 0] 26) := ⟨_, rfl⟩
  have hB2 : Below w.heap.size w w2 := by rw [hw2]; exact bel_alloc (Below.refl _ _) _
  have a2 : w2.cell? ⟨w.heap.size, 2, none⟩ = some (.string s) := by rw [hw2, cell_al_eq _ _ _ _ _ rfl]; rfl
  have a3 : w2.cell? ⟨w.heap.size, 3, none⟩ = some (.slice none 0 0) := by rw [hw2, cell_al_eq _ _ _ _ _ rfl]; rfl
  have a4 : w2.cell? ⟨w.heap.size, 4, none⟩ = some (.slice none 0 0) := by rw [hw2, cell_al_eq _ _ _ _ _ rfl]; rfl
  have HW := Lib.hid hw2
  clear hw2
  go_enter Tryz.func25, Tryz.ntmps25
  go_wp2_with fail
  rw [← HW.out]
  go_loopw [3] (fun i wr => ∃ k : Nat, k ≤ s.size ∧ i = .int .i64 k ∧ Hid (lowL (s.data.toList.take k) = false) ∧ Below w2.heap.size w2 wr) (fun i _ => s.size - (intOf i).toNat)
  case atStart => exact ⟨0, by omega, rfl, by simp [Hid, lowL], Below.refl _ _⟩
  case round =>
    obtain ⟨k, hk, rfl, HL, hbr⟩ := hrel
    have c2 := cell_keep hbr a2
    by_cases hlt : k < s.size
    · have hk1 : (k : Int) < (s.size : Int) := by omega
      by_cases hc : s[k].toNat < 32
      · have hci : (s[k].toNat : Int) < 32 := by omega
        go_wp2_with fail
        go_ret
        exact ⟨ret_bool (lowL_at hlt hc).symm, below_more hB2 hbr⟩
      · have hci : ¬ (s[k].toNat : Int) < 32 := by omega
        go_wp2_with fail
        refine ⟨⟨k + 1, by omega, by go_num, lowL_take hlt HL.out (by omega), hbr⟩, by simp [intOf]; omega⟩
    · have hall : lowL s.data.toList = false := by
        have := HL.out
        rwa [List.take_of_length_le (by rw [size_len]; omega)] at this
      have HALL := Lib.hid hall
      have c3 := cell_keep hbr a3
      have c4 := cell_keep hbr a4
      clear hall HL
      go_wp2_with fail
      go_loopw [4] (fun i wr' => i = .int .i64 0 ∧ wr' = wr) (fun _ _ => 0)
      case atStart => exact ⟨rfl, rfl⟩
      case round =>
        obtain ⟨rfl, rfl⟩ := hrel
        go_wp2_with fail
        go_loopw [5] (fun i wr' => i = .int .i64 0 ∧ wr' = wr) (fun _ _ => 0)
        case atStart => exact ⟨rfl, rfl⟩
        case round =>
          obtain ⟨rfl, rfl⟩ := hrel
          go_wp2_with fail
          go_ret
          exact ⟨ret_bool HALL.out.symm, below_more hB2 hbr⟩
theorem anyN_step {l : List ByteArray} {k : Nat} {s : ByteArray} (h : l[k]? = some s) (ha : (l.take k).any (fun s => lowL s.data.toList) = false) (hs : lowL s.data.toList = false) : (l.take (k + 1)).any (fun s => lowL s.data.toList) = false := by
  rw [List.take_add_one, h, List.any_append, ha]
  simp [hs]
theorem lowVs_app (a b : List JV) : lowVs (a ++ b) = (lowVs a || lowVs b) := by
  induction a with
  | nil => simp [lowVs]
  | cons x r ih => rw [List.cons_append, lowVs, lowVs, ih, Bool.or_assoc]
theorem lowVs_step {l : List JV} {k : Nat} {x : JV} (h : l[k]? = some x) (ha : lowVs (l.take k) = false) (hx : lowV x = false) : lowVs (l.take (k + 1)) = false := by
  rw [List.take_add_one, h, lowVs_app, ha]
  simp [lowVs, hx]
theorem lowVs_at : ∀ {l : List JV} {x : JV}, x ∈ l → lowV x = true → lowVs l = true
  | y :: r, x, h, hx => by
    rw [lowVs, Bool.or_eq_true]
    rcases List.mem_cons.1 h with e | h
    · rw [← e]; exact Or.inl hx
    · exact Or.inr (lowVs_at h hx)
set_option maxRecDepth 100000 in
set_option maxHeartbeats 8000000 in
theorem low10_any (N : Nat) : ∀ (V : JV) (v : Value) (w : World), SizeOf.sizeOf V < N → ValAt w V v →
    Calls Tryz.prog 25 #[v] w fun e w' => e = .returned (.bool (lowV V)) ∧ Below w.heap.size w w' := by
  induction N with
  | zero => intro V v w h; omega
  | succ N ih =>
    intro V v w hN hV
    have HIH := Lib.hid ih
    clear ih
    obtain ⟨vn, vi, rfl, k0, k1, n0, n1, ht, hns, his⟩ := valAt_iff.1 hV
    unfold maxLen at ht
    have HNs := Lib.hid hns
    have HIs := Lib.hid his
    obtain ⟨ai, icap, rfl, hI1, -⟩ := his.parts
    obtain ⟨an, ncap, rfl, hN1, hN2, hN3⟩ := hns.parts
    have HN3 := Lib.hid hN3
    have HN2 := Lib.hid hN2
    obtain ⟨il, e2⟩ : ∃ x, V.items.length = x := ⟨_, rfl⟩
    obtain ⟨nl, e1⟩ : ∃ x, V.names.length = x := ⟨_, rfl⟩
    rw [e2] at hI1 HIs ⊢
    rw [e1] at hN1 HNs ⊢
    have HE2 := Lib.hid e2
    have HE1 := Lib.hid e1
    obtain ⟨s, hs⟩ : ∃ s, V.t = s := ⟨_, rfl⟩
    rw [hs] at ht ⊢
    have HLV := Lib.hid (lowV_eq V)
    rw [hs] at HLV
    clear e1 e2 his hns hV hs hN2 hN3
    obtain ⟨w2, hw2⟩ : ∃ x, x = w.alloc (.cells #[.int .u8 V.k, .int .i64 V.n, .string s, .slice an nl ncap, .slice ai il icap] 26) := ⟨_, rfl⟩
    have hB2 : Below w.heap.size w w2 := by rw [hw2]; exact bel_alloc (Below.refl _ _) _
    have a2 : w2.cell? ⟨w.heap.size, 2, none⟩ = some (.string s) := by rw [hw2, cell_al_eq _ _ _ _ _ rfl]; rfl
    have a3 : w2.cell? ⟨w.heap.size, 3, none⟩ = some (.slice an nl ncap) := by rw [hw2, cell_al_eq _ _ _ _ _ rfl]; rfl
    have a4 : w2.cell? ⟨w.heap.size, 4, none⟩ = some (.slice ai il icap) := by rw [hw2, cell_al_eq _ _ _ _ _ rfl]; rfl
    have HW := Lib.hid hw2
    clear hw2
    go_enter Tryz.func25, Tryz.ntmps25
    go_wp2_with fail
    rw [← HW.out]
    go_loopw [3] (fun i wr => ∃ k : Nat, k ≤ s.size ∧ i = .int .i64 k ∧ Hid (lowL (s.data.toList.take k) = false) ∧ Below w2.heap.size w2 wr) (fun i _ => s.size - (intOf i).toNat)
    case atStart => exact ⟨0, by omega, rfl, by simp [Hid, lowL], Below.refl _ _⟩
    case round =>
      obtain ⟨k, hk, rfl, HL, hbr⟩ := hrel
      have c2 := cell_keep hbr a2
      by_cases hlt : k < s.size
      · have hk1 : (k : Int) < (s.size : Int) := by omega
        by_cases hc : s[k].toNat < 32
        · have hci : (s[k].toNat : Int) < 32 := by omega
          go_wp2_with fail
          go_ret
          exact ⟨ret_bool (by rw [HLV.out, lowL_at hlt hc]; rfl), below_more hB2 hbr⟩
        · have hci : ¬ (s[k].toNat : Int) < 32 := by omega
          go_wp2_with fail
          refine ⟨⟨k + 1, by omega, by go_num, lowL_take hlt HL.out (by omega), hbr⟩, by simp [intOf]; omega⟩
      · have hall : lowL s.data.toList = false := by
          have := HL.out
          rwa [List.take_of_length_le (by rw [size_len]; omega)] at this
        have HALL := Lib.hid hall
        clear hall HL
        go_wp2_with fail
        go_loopw [4] (fun i wr' => ∃ j : Nat, j ≤ nl ∧ i = .int .i64 j ∧ Hid ((V.names.take j).any (fun s => lowL s.data.toList) = false) ∧ Below w2.heap.size w2 wr') (fun i _ => nl - (intOf i).toNat)
        case atStart => exact ⟨0, by omega, rfl, by simp [Hid], hbr⟩
        case round =>
          clear hbr hlt hk c2
          obtain ⟨j, hj, rfl, HNl, hbr⟩ := hrel
          have c3 := cell_keep hbr a3
          by_cases hjl : j < nl
          · obtain ⟨nm, hx⟩ : ∃ x, V.names[j]? = some x := ⟨_, List.getElem?_eq_getElem (by rw [HE1.out]; exact hjl)⟩
            obtain ⟨nb, no, rfl, hcell⟩ := HN3.out j nm hx
            have hcl := cell_keep (below_more hB2 hbr) hcell
            have hsz := HN2.out nm (List.mem_of_getElem? hx)
            have hj0' : (0 : Int) ≤ (j : Int) := by omega
            have hj1' : (j : Int) < (nl : Int) := by omega
            obtain ⟨lw, hlw⟩ : ∃ b, lowL nm.data.toList = b := ⟨_, rfl⟩
            have HX := Lib.hid hx
            clear hcell hx
            go_wp2_with fail
            refine (lawText_any nm _).mono ?_
            rintro e w4 ⟨rfl, hb4⟩
            go_wp2_with fail
            refine (lowT_any nm _ hsz).mono ?_
            rintro e w5 ⟨rfl, hb5⟩
            rw [hlw]
            cases lw with
            | true =>
              go_wp2_with fail
              go_ret
              refine ⟨ret_bool ?_, below_more (below_more (below_more hB2 hbr) hb4) hb5⟩
              have h1 : V.names.any (fun s => lowL s.data.toList) = true := List.any_eq_true.2 ⟨nm, List.mem_of_getElem? HX.out, hlw⟩
              rw [HLV.out, h1]
              simp
            | false =>
              go_wp2_with fail
              refine ⟨⟨j + 1, by omega, by go_num, anyN_step HX.out HNl.out hlw, below_more (below_more hbr hb4) hb5⟩, by simp [intOf]; omega⟩
          · have hall2 : V.names.any (fun s => lowL s.data.toList) = false := by
              have := HNl.out
              rwa [List.take_of_length_le (by rw [HE1.out]; omega)] at this
            have HALL2 := Lib.hid hall2
            clear hall2 HNl
            go_wp2_with fail
            go_loopw [5] (fun i wr' => ∃ j : Nat, j ≤ il ∧ i = .int .i64 j ∧ Hid (lowVs (V.items.take j) = false) ∧ Below w2.heap.size w2 wr') (fun i _ => il - (intOf i).toNat)
            case atStart => exact ⟨0, by omega, rfl, by simp [Hid, lowVs], hbr⟩
            case round =>
              clear hbr hjl hj c3
              obtain ⟨q, hq, rfl, HVl, hbr⟩ := hrel
              have c4 := cell_keep hbr a4
              by_cases hql : q < il
              · obtain ⟨x, hx⟩ : ∃ x, V.items[q]? = some x := ⟨_, List.getElem?_eq_getElem (by rw [HE2.out]; exact hql)⟩
                obtain ⟨_, _, e', -, hpart⟩ := (HIs.out.keep (below_more hB2 hbr)).parts
                rw [HE2.out] at e'
                simp only [Value.slice.injEq] at e'
                obtain ⟨rfl, -, rfl⟩ := e'
                obtain ⟨xb, xo, xn, xi, rfl, x0, x1, x2, x3, x4, q'⟩ := hpart q x hx
                have hvx := valAt_iff.2 ⟨xn, xi, rfl, q'⟩
                obtain ⟨-, -, -, -, -, q1, q2⟩ := q'
                obtain ⟨xi1, xi2, rfl, -, -⟩ := q2.parts
                obtain ⟨xn1, xn2, rfl, -, -, -⟩ := q1.parts
                have hsx := JV.size_item (List.mem_of_getElem? hx)
                have HC := Lib.hid (HIH.out x _ wr (by omega) hvx)
                have hj0' : (0 : Int) ≤ (q : Int) := by omega
                have hj1' : (q : Int) < (il : Int) := by omega
                obtain ⟨lw, hlw⟩ : ∃ b, lowV x = b := ⟨_, rfl⟩
                rw [hlw] at HC
                have HX := Lib.hid hx
                clear hpart hx q1 q2 hvx
                go_wp2_with fail
                refine HC.out.mono ?_
                rintro e w4 ⟨rfl, hb4⟩
                cases lw with
                | true =>
                  go_wp2_with fail
                  go_ret
                  refine ⟨ret_bool ?_, below_more (below_more hB2 hbr) hb4⟩
                  rw [HLV.out, lowVs_at (List.mem_of_getElem? HX.out) hlw]
                  simp
                | false =>
                  go_wp2_with fail
                  refine ⟨⟨q + 1, by omega, by go_num, lowVs_step HX.out HVl.out hlw, below_more hbr hb4⟩, by simp [intOf]; omega⟩
              · have hall3 : lowVs V.items = false := by
                  have := HVl.out
                  rwa [List.take_of_length_le (by rw [HE2.out]; omega)] at this
                have HALL3 := Lib.hid hall3
                clear hall3 HVl
                go_wp2_with fail
                go_ret
                exact ⟨ret_bool (by rw [HLV.out, HALL.out, HALL2.out, HALL3.out]; rfl), below_more hB2 hbr⟩
set_option maxRecDepth 100000 in
set_option maxHeartbeats 8000000 in
theorem canonBack_walk (V : JV) (v : Value) (w : World) (h : ValAt w V v) (henv : NumEnv w) :
    Calls Tryz.prog 9 #[v] w fun e w' => e = .returned (.bool true) ∧ Below w.heap.size w w' := by
  obtain ⟨vn, vi, rfl, k0, k1, n0, n1, ht, hns, his⟩ := valAt_iff.1 h
  obtain ⟨ai, icap, rfl, -, -⟩ := his.parts
  obtain ⟨an, ncap, rfl, -, -, -⟩ := hns.parts
  have hin := inV_of h
  obtain ⟨w2, hw2⟩ : ∃ x, x = w.alloc (.cells #[.int .u8 V.k, .int .i64 V.n, .string V.t, .slice an V.names.length ncap, .slice ai V.items.length icap] 26) := ⟨_, rfl⟩
  have hB2 : Below w.heap.size w w2 := by rw [hw2]; exact bel_alloc (Below.refl _ _) _
  have s2 : w2.heap.size = w.heap.size + 1 := by rw [hw2, size_al]
  have HA : Hid (BlkAt w2 w.heap.size 26 #[.int .u8 V.k, .int .i64 V.n, .string V.t, .slice an V.names.length ncap, .slice ai V.items.length icap]) := by rw [hw2]; exact blkAt_new w _ _
  have hV2 := Lib.hid (h.keep hB2)
  have henv2 := Lib.hid (henv.below hB2)
  obtain ⟨w3, hw3⟩ : ∃ x, x = w2.alloc (.cells #[.int .u8 V.k, .int .i64 V.n, .string V.t, .slice an V.names.length ncap, .slice ai V.items.length icap] 26) := ⟨_, rfl⟩
  have hB3 : Below w2.heap.size w2 w3 := by rw [hw3]; exact bel_alloc (Below.refl _ _) _
  have hIt : ItemsAt w3 (.slice (some ⟨w.heap.size + 1, 0, none⟩) 1 1) [V] := by
    have q : ∀ i, w3.cell? ⟨w.heap.size + 1, i, none⟩ = (#[.int .u8 V.k, .int .i64 V.n, .string V.t, .slice an V.names.length ncap, .slice ai V.items.length icap] : Array Value)[i]? := fun i => by rw [hw3, cell_al_eq _ _ _ _ _ (by omega)]
    exact itemsAt_len (l := [V]) rfl (rowAt_put (by rw [q]; rfl) (by rw [q]; rfl) (by rw [q]; rfl) (by rw [q]; rfl) (by rw [q]; rfl) (hV2.out.keep hB3) (rowAt_nil _ _ _))
  have HW3 := Lib.hid hw3
  have HW2 := Lib.hid hw2
  have HS2 := Lib.hid s2
  have HIT := Lib.hid hIt
  have HIN := Lib.hid hin
  have s2le : w.heap.size + 1 ≤ w2.heap.size := by omega
  clear hw3 hw2 s2 hIt h henv hin his hns
  obtain ⟨a0, a1, a2, a3, a4, -⟩ := blk5 HA.out
  obtain ⟨sV, hsV⟩ : ∃ s, Hid (s = (⟨(formV V).toArray⟩ : ByteArray)) := ⟨_, rfl⟩
  have hsl : sV.data.toList = formV V := by rw [hsV.out]
  have hsz : sV.size = (formV V).length := by rw [hsV.out]; rfl
  go_enter Tryz.func9, Tryz.ntmps9
  go_wp2_with fail
  rw [← HW2.out, ← HW3.out]
  refine (long_any [V] _ _ HIT.out).mono ?_
  rintro e w3' ⟨r, rfl, hr, rfl⟩
  have hB3' := below_more hB2 hB3
  have henv3 := Lib.hid (henv2.out.below hB3)
  have hV3 := Lib.hid (hV2.out.keep hB3)
  have HA3 := Lib.hid (BlkAt.keep HA.out hB3)
  clear hr
  cases r with
  | true =>
    go_wp2_with fail
    refine (canonAwake_any _ henv3.out.toTabEnv).mono ?_
    rintro e w4 ⟨rfl, hb4⟩
    go_wp2_with fail
    go_ret
    exact ⟨rfl, below_more hB3' hb4⟩
  | false =>
    go_wp2_with fail
    refine (canonAwake_any _ henv3.out.toTabEnv).mono ?_
    rintro e w4 ⟨rfl, hb4⟩
    obtain ⟨a0, a1, a2, a3, a4, -⟩ := blk5 (BlkAt.keep HA3.out hb4)
    have HA4 := Lib.hid (BlkAt.keep HA3.out hb4)
    have hB4' := below_more hB3' hb4
    have henv4 := Lib.hid (henv3.out.below hb4)
    have hV4 := Lib.hid (hV3.out.keep hb4)
    obtain ⟨mV, hmV⟩ : ∃ m, Hid (mayB V = m) := ⟨_, rfl⟩
    cases mV with
    | false =>
      go_wp2_with fail
      refine (Encode_no V _ _ hV4.out henv4.out.toTabEnv hmV).mono ?_
      rintro e w5 ⟨rfl, hb5⟩
      go_wp2_with fail
      go_ret
      exact ⟨rfl, below_more hB4' hb5⟩
    | true =>
      go_wp2_with fail
      refine (Encode_yes V _ _ hV4.out henv4.out.toTabEnv hmV sV hsV).mono ?_
      rintro e w5 ⟨rfl, hb5⟩
      obtain ⟨a0, a1, a2, a3, a4, -⟩ := blk5 (BlkAt.keep HA4.out hb5)
      have HA5 := Lib.hid (BlkAt.keep HA4.out hb5)
      have hB5' := below_more hB4' hb5
      have henv5 := Lib.hid (henv4.out.below hb5)
      have hV5 := Lib.hid (hV4.out.keep hb5)
      by_cases hl : 65536 < sV.size
      · have hd : decide (65536 < (sV.size : Int)) = true := by simp; omega
        go_wp2_with fail
        go_ret
        exact ⟨rfl, hB5'⟩
      have hd : decide (65536 < (sV.size : Int)) = false := by simp; omega
      obtain ⟨R, hR⟩ : ∃ R, readV sV.data.toList = R := ⟨_, rfl⟩
      have HR := Lib.hid (fun W hE => read_any sV W (by omega) hE R (Lib.hid hR))
      have HLOW := Lib.hid (fun w' v' (h : ValAt w' V v') => low10_any _ V v' w' (Nat.lt_succ_self _) h)
      obtain ⟨lw, hlw⟩ : ∃ b, lowV V = b := ⟨_, rfl⟩
      rw [hlw] at HLOW
      rw [hsl] at hR
      cases lw with
      | true =>
        obtain ⟨p, er, hbad⟩ := back_bad hmV.out HIN.out hlw
        rw [hbad] at hR
        subst hR
        go_wp2_with fail
        refine (HR.out _ henv5.out).mono ?_
        rintro e w6 ⟨hb6, rfl, hne⟩
        have hb7 := bel_alloc hb6 (.cells #[.int .u8 0, .int .i64 0, .string ⟨#[]⟩, .slice none 0 0, .slice none 0 0] 26)
        obtain ⟨a0, a1, a2, a3, a4, -⟩ := blk5 (BlkAt.keep HA5.out hb7)
        have hV7 := Lib.hid (hV5.out.keep hb7)
        have heb : (er != 0) = true := by rw [bne_iff_ne]; exact hne
        simp only [zeroV]
        go_wp2_with fail
        refine (HLOW.out _ _ hV7.out).mono ?_
        rintro e w8 ⟨rfl, hb8⟩
        go_wp2_with fail
        go_ret
        exact ⟨rfl, below_more (below_more hB5' hb7) hb8⟩
      | false =>
        obtain ⟨ms, hok⟩ := back_ok hmV.out HIN.out hlw (by omega)
        rw [hok] at hR
        subst hR
        go_wp2_with fail
        refine (HR.out _ henv5.out).mono ?_
        rintro e w6 ⟨hb6, ⟨xk, xn, xt, xa, xl, xc, xb, xm, xe⟩, rfl, hnew⟩
        have hb7 := bel_alloc hb6 (.cells #[.int .u8 xk, .int .i64 xn, .string xt, .slice xa xl xc, .slice xb xm xe] 26)
        obtain ⟨a0, a1, a2, a3, a4, -⟩ := blk5 (BlkAt.keep HA5.out hb7)
        have HA7 := Lib.hid (BlkAt.keep HA5.out hb7)
        have hV7 := Lib.hid (hV5.out.keep hb7)
        have HN7 : Hid (ValAt (w6.alloc (.cells #[.int .u8 xk, .int .i64 xn, .string xt, .slice xa xl xc, .slice xb xm xe] 26)) V (VC.val ⟨xk, xn, xt, xa, xl, xc, xb, xm, xe⟩)) := hnew.bare.keep (bel_alloc (Below.refl _ _) _)
        have HK7 : Hid (BlkAt (w6.alloc (.cells #[.int .u8 xk, .int .i64 xn, .string xt, .slice xa xl xc, .slice xb xm xe] 26)) w6.heap.size 26 #[.int .u8 xk, .int .i64 xn, .string xt, .slice xa xl xc, .slice xb xm xe]) := blkAt_new w6 _ _
        have hB7 := below_more hB5' hb7
        clear hnew
        simp only [VC.val]
        go_wp2_with fail
        generalize w6.alloc (.cells #[.int .u8 xk, .int .i64 xn, .string xt, .slice xa xl xc, .slice xb xm xe] 26) = w7 at *
        generalize w6.heap.size = xb0 at *
        refine (HLOW.out _ _ hV7.out).mono ?_
        rintro e w8 ⟨rfl, hb8⟩
        obtain ⟨a0, a1, a2, a3, a4, -⟩ := blk5 (BlkAt.keep HA7.out hb8)
        obtain ⟨k0, k1, k2, k3, k4, -⟩ := blk5 (BlkAt.keep HK7.out hb8)
        have hV8 := Lib.hid (hV7.out.keep hb8)
        have hN8 := Lib.hid (HN7.out.keep hb8)
        go_wp2_with fail
        refine (Same_any V V _ _ _ hN8.out hV8.out).mono ?_
        rintro e w9 ⟨rfl, hb9⟩
        rw [sameV_self]
        go_wp2_with fail
        go_ret
        exact ⟨rfl, below_more (below_more hB7 hb8) hb9⟩
end Go.Proofs.YtngebebhaehmnaaGreatDoor
