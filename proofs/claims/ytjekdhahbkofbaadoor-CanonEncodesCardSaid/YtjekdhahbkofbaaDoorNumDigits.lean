/-
  The walk of the law NumDigits.
-/
import Derived.Test.YtjekdhahbkofbaaDoorNumRefRead
import Derived.OpenShut
import Derived.Deep.RegionWith
import Derived.Deep.DeepCutAuto
namespace Go.Proofs.YtjekdhahbkofbaaDoor
open Go.RowKit

theorem conv_below {W w' : World} (hb : Below W.heap.size W w') (b : Nat) (x : Int) (hc : W.cell? ⟨b, 0, none⟩ = some (.int .u8 x)) : (convert 45 9 (.slice (some ⟨b, 0, none⟩) 1 1)).run Tryd.prog w' = .ok (.string (Go.strOfNums [x])) w' := by
  refine run_convert_bytes_arg _ 45 5 Tryd.underlying45 Tryd.underlying5 _ 0 1 1 [x] rfl (fun i hi => ?_) _ Tryd.underlying9
  obtain rfl : i = 0 := by omega
  have hlt : b < W.heap.size := by
    rcases Nat.lt_or_ge b W.heap.size with h | h
    · exact h
    · rw [World.cell?, Array.getElem?_eq_none h] at hc; cases hc
  rw [hb.cell (p := ⟨b, 0 + 0, none⟩) hlt]
  exact hc

theorem conv_one_drew (w : World) (x : Int) : (convert 45 9 (.slice (some ⟨w.heap.size, 0, none⟩) 1 1)).run Tryd.prog (w.alloc (.cells #[.int .u8 x] 5)).drew = .ok (.string (Go.strOfNums [x])) (w.alloc (.cells #[.int .u8 x] 5)).drew :=
  conv_below (W := w.alloc (.cells #[.int .u8 x] 5)) ((Below.refl _ _).drew) _ x (cell_one_new _ _ _ 0 _ rfl)

/-- What a call may have done: new memory, and nothing else. -/
structure Ok (w0 w : World) : Prop where
  bel : Below w0.heap.size w0 w
  env : NumEnv w
theorem Ok.drew {w0 w : World} (h : Ok w0 w) : Ok w0 w.drew := ⟨h.bel.drew, h.env.below ((Below.refl _ _).drew)⟩
theorem Ok.alloc {w0 w : World} (h : Ok w0 w) (o : Obj) : Ok w0 (w.alloc o) := ⟨h.bel.alloc h.bel.size o, h.env.below ((Below.refl _ _).alloc (Nat.le_refl _) o)⟩
theorem Ok.more {w0 w w' : World} (h : Ok w0 w) (hb : Below w.heap.size w w') : Ok w0 w' := ⟨below_more h.bel hb, h.env.below hb⟩
theorem Show_ok (n : Int) (h0 : -9223372036854775808 ≤ n) (h1 : n ≤ 9223372036854775807) (w0 w : World) (h : Ok w0 w) :
    Calls Tryd.prog 26 #[.int .i64 n] w fun e w' => e = .returned (.string ⟨(Lib.itoa n).toArray⟩) ∧ Ok w0 w' ∧ Below w.heap.size w w' :=
  (Show_any n h0 h1 w h.env.toTabEnv).mono fun _ _ ⟨he, hb⟩ => ⟨he, h.more hb, hb⟩
theorem Read_ok (s : ByteArray) (at_ : Int) (w0 w : World) (hs : s.size ≤ 281474976710656) (h : Ok w0 w) :
    Calls Tryd.prog 24 #[.string s, .int .i64 at_] w fun e w' => e = .returned (.tuple #[.int .i64 (readP s.data.toList at_).1, .int .i64 (readP s.data.toList at_).2.1, .int .i64 (readP s.data.toList at_).2.2]) ∧ Ok w0 w' :=
  (Read_any s at_ w hs h.env).mono fun _ _ ⟨he, hb⟩ => ⟨he, h.more hb⟩
theorem awake6_ok (w0 w : World) (h : Ok w0 w) : Calls Tryd.prog 23 #[] w fun e w' => e = .returned (.bool true) ∧ Ok w0 w' :=
  (awake6_any w h.env).mono fun _ _ ⟨he, hb⟩ => ⟨he, h.more hb⟩

theorem itoa_len {n : Int} (h0 : -9223372036854775808 ≤ n) (h1 : n ≤ 9223372036854775807) : (Lib.itoa n).length ≤ 21 := by
  have hl : (Lib.decDigits n.natAbs).length ≤ 20 := by
    rw [Lib.decDigits_length]
    exact Nat.le_trans (nd_le 18 n.natAbs (by omega)) (by decide)
  by_cases h : n < 0
  · rw [Lib.itoa, if_pos h, List.length_cons]; omega
  · rw [Lib.itoa, if_neg h, show n.toNat = n.natAbs by omega]; omega

/-- A digit behind a number's text. -/
theorem digit_behind {n d : Int} (hn : 1 ≤ n) (hd0 : 0 ≤ d) (hd : d < 10) : Lib.itoa (10 * n + d) = Lib.itoa n ++ [UInt8.ofNat (48 + d).toNat] := by
  rw [Lib.itoa, if_neg (by omega), Lib.itoa, if_neg (by omega), Lib.decDigits, dif_neg (by omega), show (10 * n + d).toNat / 10 = n.toNat by omega, show 48 + (10 * n + d).toNat % 10 = (48 + d).toNat by omega]
theorem readP_digit {n d : Int} (hn : 1 ≤ n) (hd0 : 0 ≤ d) (hd : d < 10) : readP (Lib.itoa n ++ [UInt8.ofNat (48 + d).toNat]) 0 = if 10 * n + d ≤ 9223372036854775807 then (10 * n + d, ((Lib.itoa (10 * n + d)).length : Int), 0) else (0, 0, 9) := by
  rw [← digit_behind hn hd0 hd]
  obtain ⟨f1, f2, f3, _⟩ := Nm.itoa_form (10 * n + d)
  have hr : Nm.run (Lib.itoa (10 * n + d)) 0 = Lib.itoa (10 * n + d) := by
    rw [Nm.run, List.drop_zero]
    rw [List.all_eq_true] at f3
    have := List.takeWhile_append_of_pos (p := Nm.isN) (l₁ := Lib.itoa (10 * n + d)) (l₂ := []) f3
    simpa using this
  have := readP_in (l := Lib.itoa (10 * n + d)) (a := 0) (Nat.zero_le _)
  rw [hr, if_neg (by simp [f1]), f2] at this
  refine Eq.trans ?_ (this.trans ?_)
  · rfl
  · by_cases h : 10 * n + d ≤ 9223372036854775807
    · rw [if_pos ⟨by omega, h⟩, if_pos h]; simp
    · rw [if_neg (by omega), if_neg h]

theorem ReadD_ok (l : List UInt8) (x : Int) (hl : l.length ≤ 21) (r1 r2 r3 : Int) (hr : Hid (readP (l ++ [UInt8.ofNat x.toNat]) 0 = (r1, r2, r3))) (w0 w : World) (h : Ok w0 w) :
    Calls Tryd.prog 24 #[.string (⟨l.toArray⟩ ++ strOfNums [x]), .int .i64 0] w fun e w' => e = .returned (.tuple #[.int .i64 r1, .int .i64 r2, .int .i64 r3]) ∧ Ok w0 w' := by
  have e : ((⟨l.toArray⟩ : ByteArray) ++ strOfNums [x]) = ⟨(l ++ [UInt8.ofNat x.toNat]).toArray⟩ := by
    have h1 : strOfNums [x] = ⟨#[UInt8.ofNat x.toNat]⟩ := rfl
    rw [h1]
    apply ByteArray.ext
    simp
  have h2 := Read_ok ⟨(l ++ [UInt8.ofNat x.toNat]).toArray⟩ 0 w0 w ?_ h
  · rw [bytes_of, hr.out] at h2
    rw [e]
    exact h2
  · rw [bytes_size, List.length_append]; simp; omega

set_option maxRecDepth 100000 in
set_option maxHeartbeats 1000000 in
theorem numDigits_walk (n d : Int) (w : World) (w0 : (Lit.int .i64 n).wf = true) (w1 : (Lit.int .u8 d).wf = true) (henv : NumEnv w) :
    Calls Tryd.prog 13 #[.int .i64 n, .int .u8 d] w fun e w' => e = .returned (.bool true) ∧ Below w.heap.size w w' := by
  obtain ⟨n0, n1⟩ := bounds_i64 w0
  obtain ⟨d0, d1⟩ := bounds_u8 w1
  clear w0 w1
  have hok : Ok w w := ⟨Below.refl _ _, henv⟩
  by_cases h1 : n < 1
  · go_enter Tryd.func13, Tryd.ntmps13
    go_wp2_with fail
    refine (awake6_ok _ _ hok).mono ?_
    rintro e w3 ⟨rfl, hok3⟩
    go_wp2_with fail
    go_ret
    exact ⟨rfl, hok3.bel⟩
  · have hcv := conv_one
    have hcvd := conv_one_drew
    have hz : ∀ x : Int, (strOfNums [x]).size = 1 := fun _ => rfl
    have hw8 : IntKind.u8.wrap (48 + d % 10) = 48 + d % 10 := by simp [IntKind.wrap, IntKind.bits, IntKind.signed]; omega
    have hlen := itoa_len n0 n1
    obtain ⟨r1, r2, r3, hr⟩ : ∃ r1 r2 r3, readP (Lib.itoa n ++ [UInt8.ofNat (48 + d % 10).toNat]) 0 = (r1, r2, r3) := ⟨_, _, _, rfl⟩
    have HR := Lib.hid hr
    clear hr
    go_enter Tryd.func13, Tryd.ntmps13
    go_wp2_with fail
    refine (awake6_ok _ _ hok).mono ?_
    rintro e w3 ⟨rfl, hok3⟩
    clear hok henv
    go_upto_region 4 with (fail)
    go_cut [5, 6, 7] (fun s5 s6 s7 wx => s5 = .int .i64 r1 ∧ s6 = .int .i64 r2 ∧ s7 = .int .i64 r3 ∧ Ok w wx)
    case first =>
      go_region_with (first | (go_at_call 26; refine (Show_ok n n0 n1 w _ ?_).mono ?_; (repeat first | assumption | apply Ok.drew | apply Ok.alloc); rintro e w4 ⟨rfl, hok4, hb4⟩; have hcv2 := conv_below hb4) | (go_at_call 24; refine (ReadD_ok _ _ hlen r1 r2 r3 HR w _ ?_).mono ?_; (repeat first | assumption | apply Ok.drew | apply Ok.alloc); rintro e w5 ⟨rfl, hok5⟩))
      all_goals
        clear hcv hcvd hz hw8 HR
        go_wp2_with fail
        go_simp
        go_meet
        case rel => exact ⟨rfl, rfl, rfl, by assumption⟩
    case rest =>
      obtain ⟨rfl, rfl, rfl, hokc⟩ := hcut
      clear hcv hcvd hz hw8 hok3
      have hr := HR.out.symm.trans (readP_digit (d := d % 10) (by omega) (by omega) (by omega))
      clear HR
      by_cases hgt : 9223372036854775807 < 10 * n + d % 10
      · rw [if_neg (by omega)] at hr
        simp only [Prod.mk.injEq] at hr
        obtain ⟨rfl, rfl, rfl⟩ := hr
        have hq : (9223372036854775807 - d % 10) / 10 < n := by omega
        go_wp2_with fail
        go_ret
        exact ⟨rfl, hokc.bel⟩
      · rw [if_pos (by omega)] at hr
        simp only [Prod.mk.injEq] at hr
        obtain ⟨rfl, rfl, rfl⟩ := hr
        have hq : ¬ (9223372036854775807 - d % 10) / 10 < n := by omega
        go_wp2_with fail
        refine (Show_ok _ (by omega) (by omega) w _ hokc).mono ?_
        rintro e w6 ⟨rfl, hok6, -⟩
        go_wp2_with fail
        go_ret
        exact ⟨rfl, hok6.bel⟩
end Go.Proofs.YtjekdhahbkofbaaDoor
