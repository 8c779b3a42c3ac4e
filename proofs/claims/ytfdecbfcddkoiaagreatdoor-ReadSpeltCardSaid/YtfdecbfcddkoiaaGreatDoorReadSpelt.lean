/-
  The walk of the law ReadSpelt.
-/
import Derived.Test.YtfdecbfcddkoiaaGreatDoorSpeltB
import Derived.Test.YtfdecbfcddkoiaaGreatDoorReadAwake
import Derived.Test.YtfdecbfcddkoiaaGreatDoorValRef3
import Derived.Test.YtfdecbfcddkoiaaGreatDoorReadMayP
import Derived.Test.YtfdecbfcddkoiaaGreatDoorValRead
import Derived.ChangeSlices
import Derived.IntWalk
namespace Go.Proofs.YtfdecbfcddkoiaaGreatDoor
open Go.RowKit

/-- Any value that may be is written. -/
theorem spValue_any {w0 : World} {r : Nat} {a : Option Addr} {how : List UInt8} (hr : w0.heap.size ≤ r) : ∀ (f : Nat) (V : JV), SizeOf.sizeOf V < f → goodV V = true → inV V → ValOK w0 r a how f V
  | 0, _, h, _, _ => by omega
  | f + 1, V, hf, hg, hin => by
    intro v w n hv hB h hn
    have hp : properB V = true := by rw [goodV_eq, Bool.and_eq_true] at hg; exact hg.1
    have hgi : V.k = 4 ∨ V.k = 5 → goodVs V.items = true := fun h5 => by
      rw [goodV_eq, Bool.and_eq_true] at hg
      have := hg.2
      rwa [if_pos h5] at this
    have hin2 : inVs V.items ∧ -9223372036854775808 ≤ V.n ∧ V.n ≤ 9223372036854775807 := by
      cases V
      rw [inV] at hin
      exact ⟨hin.2.2, hin.1, hin.2.1⟩
    have ih : V.k = 4 ∨ V.k = 5 → ∀ x ∈ V.items, ValOK w0 r a how f x := fun h5 x hx => by
      have h1 := JV.size_item (v := V) hx
      exact spValue_any hr f x (by omega) (goodVs_mem (hgi h5) x hx) (inVs_mem hin2.1 hx)
    have hparts := proper_parts hp
    have hw := wt_eq V
    rcases hparts with ⟨hk, -⟩ | ⟨hk, -⟩ | ⟨hk, -⟩ | ⟨hk, -⟩ | ⟨hk, -, -, hl⟩
    · exact spValue_1 V v hv hB hr h (by omega) f hk
    · exact spValue_2 V v hv hB hr h (by omega) f hk hin2.2.1 hin2.2.2
    · have hwr : writ V.t = true := proper_text hp hk
      have := writ_size hwr
      exact spValue_3 V v hv hB hr h (by omega) f hk (by omega) hwr
    · exact spValue_4 V v hv hB hr h hn f hk hin2.1 (ih (.inl hk))
    · obtain ⟨-, h1, h2⟩ := proper_obj hp hk
      exact spValue_5 V v hv hB hr h hn f hk hl (fun s hs => by
        have := List.all_eq_true.1 h2 s hs
        have h3 := writ_size this
        exact ⟨this, by omega⟩) hin2.1 (ih (.inr hk))
/-- A row of numbers that has been handed in. -/
def HowAt (w : World) (v : Value) (how : List UInt8) : Prop := ∃ (a : Option Addr) (cap : Nat), v = .slice a how.length cap ∧ how.length ≤ 9223372036854775807 ∧ ∀ i x, how[i]? = some x → ∃ b o, a = some ⟨b, o, none⟩ ∧ w.cell? ⟨b, o + i, none⟩ = some (.int .u8 (x.toNat : Int))
section
open Go.ChangeShapes Go.WideShapes Go.Deep
variable {H : Type} {enc : TypeId × Value → H} {w : World} {base : Nat} {spare : Nat → Bool} {held : Bool}
set_option maxRecDepth 100000 in
theorem howAt_arg {q : Reach} {b0 : Nat} {v : Value} {d : DataW H} {p : List MemPlace} (hv : Value.okWide Tryz.prog w q b0 32 v) (h : DataW.Trod enc Tryz.prog w base spare held 32 v d p) : ∃ how, HowAt w v how := by
  obtain ⟨a1, len, cap, rfl⟩ := okWide_slice Tryz.underlying32 hv
  obtain ⟨fuel, hf⟩ := h
  rcases open_ints Tryz.underlying32 Tryz.underlying5 (by kernel_rfl) hf with ⟨hcs, -⟩ | ⟨a, len', cap', zs, hcs, -, hl, hm, hz, -, hcell, hwz⟩
  · simp [Value.cells] at hcs
    obtain ⟨rfl, rfl, rfl⟩ := hcs
    exact ⟨[], none, 0, rfl, by simp, fun i x hx => by simp at hx⟩
  · simp [Value.cells] at hcs
    obtain ⟨rfl, rfl, rfl⟩ := hcs
    have hle : len ≤ zs.length := by rw [hz]; split <;> omega
    have hlen : ((zs.take len).map fun n => UInt8.ofNat n.toNat).length = len := by simp; omega
    have h64 : len ≤ 9223372036854775807 := Nat.le_trans hl (Nat.le_trans hm (by decide))
    refine ⟨(zs.take len).map fun n => UInt8.ofNat n.toNat, some a, cap, by rw [hlen], by rw [hlen]; exact h64, fun i x hx => ?_⟩
    have hi : i < len := by have := (List.getElem?_eq_some_iff.1 hx).1; omega
    obtain ⟨ab, ao, spot⟩ := a
    have hci := hcell i (by omega)
    have hspot : spot = none := by simpa [Addr.add] using World.cell?_spot (hcell 0 (by omega))
    subst hspot
    refine ⟨ab, ao, rfl, ?_⟩
    rw [add_none] at hci
    rw [hci]
    rw [List.getElem?_map, List.getElem?_take_of_lt hi, List.getElem?_eq_getElem (by omega)] at hx
    simp only [Option.map_some, Option.some.injEq] at hx
    have hwf := hwz zs[i] (List.getElem_mem _)
    have hw2 : 0 ≤ zs[i] ∧ zs[i] ≤ 255 := by simp [Lit.wf, IntKind.min, IntKind.max, IntKind.bits, IntKind.signed] at hwf; omega
    rw [← hx, List.getD_eq_getElem?_getD, List.getElem?_eq_getElem (by omega)]
    show some (Value.int .u8 zs[i]) = some (.int .u8 ((UInt8.ofNat zs[i].toNat).toNat : Int))
    rw [UInt8.toNat_ofNat_of_lt' (by have : UInt8.size = 256 := rfl; omega)]
    congr 2
    omega
end
set_option maxRecDepth 100000 in
set_option maxHeartbeats 8000000 in
theorem readSpelt_walk (V : JV) (how : List UInt8) (v hv : Value) (w : World) (h : ValAt w V v) (hh : HowAt w hv how) (henv : NumEnv w) :
    Calls Tryz.prog 4 #[v, hv] w fun e w' => e = .returned (.bool true) ∧ Below w.heap.size w w' := by
  obtain ⟨ha, hcap, rfl, hhl, hhc⟩ := hh
  have HHC := Lib.hid hhc
  obtain ⟨hl, hhle⟩ : ∃ n, how.length = n := ⟨_, rfl⟩
  rw [hhle] at hhl ⊢
  have HHL := Lib.hid hhle
  clear hhc hhle
  obtain ⟨vn, vi, rfl, k0, k1, n0, n1, ht, hns, his⟩ := valAt_iff.1 h
  obtain ⟨ai, icap, rfl, -, -⟩ := his.parts
  obtain ⟨an, ncap, rfl, -, -, -⟩ := hns.parts
  have hin := inV_of h
  obtain ⟨w2, hw2⟩ : ∃ x, x = w.alloc (.cells #[.int .u8 V.k, .int .i64 V.n, .string V.t, .slice an V.names.length ncap, .slice ai V.items.length icap] 26) := ⟨_, rfl⟩
  have hB2 : Below w.heap.size w w2 := by rw [hw2]; exact bel_alloc (Below.refl _ _) _
  have s2 : w2.heap.size = w.heap.size + 1 := by rw [hw2, size_al]
  have HA : Hid (BlkAt w2 w.heap.size 26 #[.int .u8 V.k, .int .i64 V.n, .string V.t, .slice an V.names.length ncap, .slice ai V.items.length icap]) := by rw [hw2]; exact blkAt_new w _ _
  have hV2 := Lib.hid (h.keep hB2)
  have henv2 := Lib.hid (henv.below hB2)
  obtain ⟨w3, hw3⟩ : ∃ x, x = w2.alloc (.cells #[.int .u8 V.k, .int .i64 V.n, .string V.t, .slice an V.names.length ncap, .slice ai V.items.length icap] 26) := ⟨_, rfl⟩
  have hB3 : Below w2.heap.size w2 w3 := by rw [hw3]; exact bel_alloc (Below.refl _ _) _
  have hIt : ItemsAt w3 (.slice (some ⟨w.heap.size + 1, 0, none⟩) 1 1) [V] := by
    have q : ∀ i, w3.cell? ⟨w.heap.size + 1, i, none⟩ = (#[.int .u8 V.k, .int .i64 V.n, .string V.t, .slice an V.names.length ncap, .slice ai V.items.length icap] : Array Value)[i]? := fun i => by rw [hw3, cell_al_eq _ _ _ _ _ (by omega)]
    exact itemsAt_len (l := [V]) rfl (rowAt_put (by rw [q]; rfl) (by rw [q]; rfl) (by rw [q]; rfl) (by rw [q]; rfl) (by rw [q]; rfl) (hV2.out.keep hB3) (rowAt_nil _ _ _))
  have HW3 := Lib.hid hw3
  have HW2 := Lib.hid hw2
  have HS2 := Lib.hid s2
  have HIT := Lib.hid hIt
  have HIN := Lib.hid hin
  have s2le : w.heap.size + 1 ≤ w2.heap.size := by omega
  clear hw3 hw2 s2 hIt h henv hin his hns
  obtain ⟨a0, a1, a2, a3, a4, -⟩ := blk5 HA.out
  go_enter Tryz.func4, Tryz.ntmps4
  go_wp2_with fail
  rw [← HW2.out, ← HW3.out]
  refine (long_any [V] _ _ HIT.out).mono ?_
  rintro e w3' ⟨r, rfl, hr, rfl⟩
  have HWT := Lib.hid hr
  have hB3' := below_more hB2 hB3
  have henv3 := Lib.hid (henv2.out.below hB3)
  have hV3 := Lib.hid (hV2.out.keep hB3)
  have HA3 := Lib.hid (BlkAt.keep HA.out hB3)
  obtain ⟨a0, a1, a2, a3, a4, -⟩ := blk5 HA3.out
  clear hr
  cases r with
  | true =>
    go_wp2_with fail
    refine (awake9_any _ henv3.out).mono ?_
    rintro e w4 ⟨rfl, hb4⟩
    go_wp2_with fail
    go_ret
    exact ⟨rfl, below_more hB3' hb4⟩
  | false =>
    have hwt : wt V < 20000 := by have := HWT.out rfl; simp only [wtL] at this; omega
    obtain ⟨mV, hmV⟩ : ∃ m, Hid (mayB V = m) := ⟨_, rfl⟩
    have HMAY := Lib.hid (fun W (hW : ValAt W V _) => refMay_any V (.agg #[.int .u8 V.k, .int .i64 V.n, .string V.t, .slice an V.names.length ncap, .slice ai V.items.length icap]) W hW (by omega) mV hmV)
    go_wp2_with fail
    refine (HMAY.out _ hV3.out).mono ?_
    rintro e w4 ⟨rfl, hb4⟩
    have HA4 := Lib.hid (BlkAt.keep HA3.out hb4)
    have hB4' := below_more hB3' hb4
    have henv4 := Lib.hid (henv3.out.below hb4)
    have hV4 := Lib.hid (hV3.out.keep hb4)
    clear a0 a1 a2 a3 a4
    cases mV with
    | false =>
      go_wp2_with fail
      refine (awake9_any _ henv4.out).mono ?_
      rintro e w5 ⟨rfl, hb5⟩
      go_wp2_with fail
      go_ret
      exact ⟨rfl, below_more hB4' hb5⟩
    | true =>
      go_wp2_with fail
      refine (awake9_any _ henv4.out).mono ?_
      rintro e w5 ⟨rfl, hb5⟩
      obtain ⟨a0, a1, a2, a3, a4, -⟩ := blk5 (BlkAt.keep HA4.out hb5)
      have HA5 := Lib.hid (BlkAt.keep HA4.out hb5)
      have hB5' := below_more hB4' hb5
      have henv5 := Lib.hid (henv4.out.below hb5)
      have hV5 := Lib.hid (hV4.out.keep hb5)
      obtain ⟨hgood, hdep, hcnt⟩ := (mayB_iff V).1 hmV.out
      have hbS : Below w5.heap.size w5 (w5.alloc (.cells #[.slice ha hl hcap, .int .i64 0] 37)) := bel_alloc (Below.refl _ _) _
      have hSp : SpAt (w5.alloc (.cells #[.slice ha hl hcap, .int .i64 0] 37)) w5.heap.size ha how 0 := by
        refine ⟨hl, hcap, blkAt_new w5 _ _, HHL.out.symm, hhl, fun i x hx => ?_⟩
        obtain ⟨b, o, e, hc⟩ := HHC.out i x hx
        refine ⟨b, o, e, ?_, cell_keep hbS (cell_keep hB5' hc)⟩
        have := cell_lt (cell_keep hB5' hc)
        have h2 : b < w5.heap.size := this
        omega
      obtain ⟨f, hf⟩ : ∃ f, SizeOf.sizeOf V + 1 = f := ⟨_, rfl⟩
      have hC := spValue_any (a := ha) (how := how) (Nat.le_refl w5.heap.size) f V (by omega) hgood HIN.out _ _ 0 hV5.out hbS hSp (by omega)
      have hSpV := valS_sp how f V 0 (by omega) hgood HIN.out
      obtain ⟨L, hL⟩ : ∃ L, valS how f V 0 = L := ⟨_, rfl⟩
      have hLn := valS_n how f V 0 HIN.out
      rw [hL] at hC hSpV hLn
      obtain ⟨sV, hsV⟩ : ∃ s : ByteArray, (⟨L.1.toArray⟩ : ByteArray) = s := ⟨_, rfl⟩
      rw [hsV] at hC
      have hsl : sV.data.toList = L.1 := by rw [← hsV]
      have hsz : sV.size = L.1.length := by rw [← hsV]; rfl
      have HC := Lib.hid hC
      obtain ⟨b0, b1, b2, b3, b4, -⟩ := blk5 (BlkAt.keep HA5.out hbS)
      clear hC hSp hL hf
      go_wp2_with fail
      refine HC.out.mono ?_
      rintro e w6 ⟨rfl, hg6, -⟩
      have hb6 : Below w5.heap.size w5 w6 := grown_Below hbS (Nat.le_refl _) hg6
      have HA6 := Lib.hid (BlkAt.keep HA5.out hb6)
      have hB6' := below_more hB5' hb6
      have henv6 := Lib.hid (henv5.out.below hb6)
      have hV6 := Lib.hid (hV5.out.keep hb6)
      clear hg6 hbS a0 a1 a2 a3 a4
      obtain ⟨R, hR⟩ : ∃ R, readV sV.data.toList = R := ⟨_, rfl⟩
      have HR := Lib.hid (fun W hE => read_any sV W (by omega) hE R (Lib.hid hR))
      rw [hsl] at hR
      by_cases hlen : 65536 < sV.size
      · have hbad : readV L.1 = .bad 0 5 := by unfold readV; rw [if_pos (by omega)]
        rw [hbad] at hR
        subst hR
        have hd : (65536 : Int) < (sV.size : Int) := by omega
        clear hSpV hLn hsl hsz
        go_wp2_with fail
        refine (HR.out _ henv6.out).mono ?_
        rintro e w7 ⟨hb7, rfl, -⟩
        simp only [zeroV]
        have hB7 := bel_alloc (below_more hB6' hb7) (.cells #[.int .u8 0, .int .i64 0, .string ⟨#[]⟩, .slice none 0 0, .slice none 0 0] 26)
        go_wp2_with fail
        go_ret
        exact ⟨rfl, hB7⟩
      · obtain ⟨ms, hok⟩ := hSpV.read (by omega) hdep hcnt
        rw [hok] at hR
        subst hR
        have hd : ¬ (65536 : Int) < (sV.size : Int) := by omega
        clear hSpV hLn hsl hsz
        go_wp2_with fail
        refine (HR.out _ henv6.out).mono ?_
        rintro e w7 ⟨hb7, ⟨xk, xn, xt, xa, xl, xc, xb, xm, xe⟩, rfl, hnew⟩
        have hb8 := bel_alloc hb7 (.cells #[.int .u8 xk, .int .i64 xn, .string xt, .slice xa xl xc, .slice xb xm xe] 26)
        obtain ⟨a0, a1, a2, a3, a4, -⟩ := blk5 (BlkAt.keep HA6.out hb8)
        have hV8 := Lib.hid (hV6.out.keep hb8)
        have HN8 : Hid (ValAt (w7.alloc (.cells #[.int .u8 xk, .int .i64 xn, .string xt, .slice xa xl xc, .slice xb xm xe] 26)) V (VC.val ⟨xk, xn, xt, xa, xl, xc, xb, xm, xe⟩)) := hnew.bare.keep (bel_alloc (Below.refl _ _) _)
        obtain ⟨k0, k1, k2, k3, k4, -⟩ := blk5 (blkAt_new w7 #[.int .u8 xk, .int .i64 xn, .string xt, .slice xa xl xc, .slice xb xm xe] 26)
        have hB8 := below_more hB6' hb8
        clear hnew
        simp only [VC.val]
        go_wp2_with fail
        refine (Same_any V V _ _ _ HN8.out hV8.out).mono ?_
        rintro e w9 ⟨rfl, hb9⟩
        rw [sameV_self]
        go_wp2_with fail
        go_ret
        exact ⟨rfl, below_more hB8 hb9⟩
end Go.Proofs.YtfdecbfcddkoiaaGreatDoor
